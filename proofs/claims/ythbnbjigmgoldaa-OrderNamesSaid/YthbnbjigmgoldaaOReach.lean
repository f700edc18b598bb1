/- Package order: Reach. No conditions beyond the readings of the arguments. -/
import Derived.Test.YthbnbjigmgoldaaOReach1
import Derived.Test.YthbnbjigmgoldaaOReachS
import Derived.Test.YthbnbjigmgoldaaORC
import Derived.Shelf.RegionOpen
namespace Go.Proofs.Ythbnbjigmgoldaa
open Go.RowKit
set_option linter.unusedVariables false

/-- A piece that only goes on. -/
def onlyN (K : Act → World → Prop) : Exit → Act → World → Prop
  | .normal, a, w => K a w
  | _, _, _ => False
theorem onlyN_mk {K : Act → World → Prop} {a : Act} {w : World} (h : K a w) : onlyN K .normal a w := h
theorem wp_onlyN {P : Program} {c : Code} {Q : Exit → Act → World → Prop} {a : Act} {w : World} (h : c.wp P (onlyN (Q .normal)) a w) : c.wp P Q a w := by
  refine wp_mono h ?_
  intro e a' w' h'
  cases e <;> first | exact h' | exact h'.elim

set_option maxRecDepth 100000 in
set_option maxHeartbeats 2000000 in
theorem reach_any (K : Nat) (p : Pl) (nm : ByteArray) (vd vt vc : Value) (s : Str) (w : World) (h : PlanIs K w vd vc p) (hK : K ≤ w.heap.size) (hbig : p.size ≤ 2 ^ 38) (hs : s.length ≤ maxLen) :
    Calls Try.prog 23 #[.agg #[.string nm, vd, vt, vc], S s] w fun e w' => ∃ x, e = .returned x ∧ OwnS w.heap.size w' x (reach p s) ∧ Below w.heap.size w w' := by
  have hmm := @run_makeMap Try.prog
  obtain ⟨B0, hB0⟩ : ∃ B0, w.heap.size = B0 := ⟨_, rfl⟩
  rw [hB0] at hK ⊢
  obtain ⟨W, hW⟩ : ∃ W, w.alloc (.cells #[.string nm, vd, vt, vc] 26) = W := ⟨_, rfl⟩
  have hb : Below B0 w W := by rw [← hW, ← hB0]; exact (Below.refl _ w).alloc (Nat.le_refl _) _
  have hsz : W.heap.size = B0 + 1 := by rw [← hW, ← hB0]; simp
  obtain ⟨dg, hdg, _⟩ := id h.1
  obtain ⟨da, dcap, rfl, _⟩ := id hdg
  obtain ⟨cg, hcg, _⟩ := id h.2
  obtain ⟨ca, ccap, rfl, _⟩ := id hcg
  have hg := graph_any K p nm _ vt _ W (h.below hb hK (Nat.le_refl _)) (by omega) hbig
  have HB := Lib.hid hB0
  have HW := Lib.hid hW
  have hnb : (names p).length ≤ 2 ^ 38 := by have := names_length p; unfold Pl.size at hbig; omega
  clear hB0 hW hdg hcg
  go_enter Try.func23, Try.ntmps23
  go_wp2_with fail
  simp only [HB.out]
  rw [HW.out]
  refine hg.mono ?_
  rintro e w2 ⟨nv, b, rfl, hgr, hb2⟩
  have hb02 : Below B0 w w2 := hb.trans (hb2.mono (by omega))
  have hs2 := hb2.size
  obtain ⟨G, hG⟩ : ∃ G, w2.heap.size = G := ⟨_, rfl⟩
  obtain ⟨W6, hW6⟩ : ∃ W6, (((w2.alloc (.cells #[nv, .map (some b)] 66)).alloc (.map #[] 0)).alloc (.cells #[.map (some (G + 1))] 77)).alloc (.cells #[.slice none 0 0] 68) = W6 := ⟨_, rfl⟩
  have hbG : Below G w2 W6 := by rw [← hW6, ← hG]; exact ((((Below.refl _ w2).alloc (Nat.le_refl _) _).alloc (by simp) _).alloc (by simp; omega) _).alloc (by simp; omega) _
  have hs6 : W6.heap.size = G + 4 := by rw [← hW6, ← hG]; simp
  have hgr6 := hgr.below (hG ▸ hbG) (Nat.le_refl _) (Nat.le_refl _)
  rw [hG] at hgr6
  have hGB : B0 + 1 ≤ G := by omega
  have q6 : Blk W6 G #[nv, .map (some b)] 66 := by rw [← hW6, ← hG]; exact (((Blk.new w2 _ _).alloc _).alloc _).alloc _
  have hrd : Rd (G + 4) (G + 3) (G + 2) (G + 1) [] [] (.slice none 0 0) (G + 1) (w2.alloc (.cells #[nv, .map (some b)] 66)) W6 := by
    refine ⟨?_, ?_, ?_, OwnN.nil _ _, ?_, by omega, by omega, by omega, by omega, by omega, by omega, by omega, by omega, by omega, by omega⟩
    · have := MapIs.made (w2.alloc (.cells #[nv, .map (some b)] 66)) 3
      rw [World.size_alloc, hG, fN_none, inSet_nil] at this
      rw [← hW6]
      exact (this.alloc _).alloc _
    · have := Blk.new ((w2.alloc (.cells #[nv, .map (some b)] 66)).alloc (.map #[] 0)) #[.map (some (G + 1))] 77
      rw [World.size_alloc, World.size_alloc, hG] at this
      rw [← hW6]; exact this.alloc _
    · have := Blk.new (((w2.alloc (.cells #[nv, .map (some b)] 66)).alloc (.map #[] 0)).alloc (.cells #[.map (some (G + 1))] 77)) #[.slice none 0 0] 68
      rw [World.size_alloc, World.size_alloc, World.size_alloc, hG] at this
      rw [← hW6]; exact this
    · rw [← hW6, ← hG]; exact (((Below.refl _ _).alloc (by simp) _).alloc (by simp) _).alloc (by simp) _
  obtain ⟨va, hla, hnv⟩ := hgr6.look s hs
  obtain ⟨a1, c1, rfl, _, hc1⟩ := hnv.form
  have hst := hgr6.1
  obtain ⟨na, ncap, rfl, hn1, hn2⟩ := hst.form
  have HG := Lib.hid hG
  have HW6 := Lib.hid hW6
  have hla0 := hla
  rw [← hW6, ← hG] at hla
  obtain ⟨wG, hwG⟩ : ∃ wG, w2.alloc (.cells #[.slice na (names p).length ncap, .map (some b)] 66) = wG := ⟨_, rfl⟩
  have hgG := hgr.below ((Below.refl w2.heap.size w2).alloc (Nat.le_refl _) (.cells #[.slice na (names p).length ncap, .map (some b)] 66)) (Nat.le_refl _) (Nat.le_refl _)
  have qG := Blk.new w2 #[.slice na (names p).length ncap, .map (some b)] 66
  have hbwG := (Below.refl w2.heap.size w2).alloc (Nat.le_refl _) (.cells #[.slice na (names p).length ncap, .map (some b)] 66)
  rw [hwG, hG] at hgG qG hbwG
  rw [hwG] at hrd
  clear hW6 hg hgr hG hwG
  go_wp2_with fail
  simp only [HG.out, Nat.add_assoc, Nat.reduceAdd]
  rw [HW6.out]
  have hb0G : Below B0 w wG := hb02.trans (hbwG.mono (by omega))
  have hdn := deps_length p s
  have hdl : ∀ x ∈ deps p s, x < (names p).length := deps_lt
  have hDl : ∀ i, ∀ j ∈ gD p i, j < (names p).length := fun i => deps_lt
  have hadd := add_any G (G + 4) (G + 3) (G + 2) (G + 1) (G + 1) (.slice a1 (deps p s).length c1) (deps p s) [] (.slice none 0 0) W6 wG hrd hnv (by omega) (fun i hi => by have := deps_lt i hi; omega) (by simp; omega)
  refine hadd.mono ?_
  clear hadd hla hla0 hnv q6 hbG hrd hmm hst hgr6
  rintro e w7 ⟨rfl, av7, hr7⟩
  have hcl := Lib.hid (Clo.start (gD p) (deps p s))
  obtain ⟨acc7, hacc⟩ : ∃ acc7, (deps p s).foldl addS [] = acc7 := ⟨_, rfl⟩
  rw [hacc] at hr7 hcl
  clear hacc
  unfold maxLen at hn2
  go_wp2_with fail
  go_loopw [9] (fun i wr => ∃ (n : Nat) (acc : List Nat) (av : Value), i = .int .i64 n ∧ n ≤ acc.length ∧ Rd (G + 4) (G + 3) (G + 2) (G + 1) acc acc av (G + 1) wG wr ∧ Hid (Clo (gD p) (deps p s) n acc)) (fun i _ => (names p).length - (intOf i).toNat)
  case atStart => exact ⟨0, acc7, av7, rfl, Nat.zero_le _, hr7, hcl⟩
  case round =>
    clear hr7 hcl
    obtain ⟨n, acc, av, rfl, hna, hr, HC⟩ := hrel
    obtain ⟨x0, x1⟩ := hr.abox.one
    have hal := HC.out.length hdl hDl
    by_cases hlt : n < acc.length
    · obtain ⟨g, c, rfl, hc2, hc3⟩ := hr.own.pos (by omega)
      have hzl : fn acc n < (names p).length := HC.out.lt hdl hDl _ (fn_mem hlt)
      have z0 := hr.own.cell (q := n) hlt
      have HST := Lib.hid (HC.out.step hlt)
      obtain ⟨z, hz⟩ : ∃ z, fn acc n = z := ⟨_, rfl⟩
      rw [hz] at hzl z0 HST
      have hgr := hgG.below hr.bel (by omega) (Nat.le_refl _)
      obtain ⟨nb, no, ncp, hne, _, _, hnbK, hnc⟩ := hgr.1.pos (by omega)
      simp only [Value.slice.injEq, true_and] at hne
      obtain ⟨rfl, rfl⟩ := hne
      have s0 := hnc z hzl
      have hsl : ((names p)[z]?.getD []).length ≤ maxLen := hgr.1.len
      have HGD : Hid (deps p ((names p)[z]?.getD []) = gD p z) := Lib.hid rfl
      obtain ⟨sz, hsz⟩ : ∃ sz, (names p)[z]?.getD [] = sz := ⟨_, rfl⟩
      rw [hsz] at s0 hsl HGD
      obtain ⟨g0, g1⟩ := (qG.below hr.bel (by omega)).two
      unfold maxLen at hc3
      have qGr := qG.below hr.bel (by omega)
      have hgl : g < wr.heap.size := ownsRow_lt hr.own rfl
      have hnl : nb < wr.heap.size := by have := hr.big; omega
      have z0 : wr.cell? ⟨g, n, none⟩ = some (.int .i64 (z : Int)) := z0
      clear hz hsz hnc
      go_wp2_with fail
      refine wp_onlyN ?_
      refine region_plain (fun W' => Below wr.heap.size wr W') [12] (by kernel_rfl) ?_
      have qQ : (fun W' => Below wr.heap.size wr W') wr.drew := ⟨rfl, rfl, rfl, Nat.le_refl _, fun _ _ => rfl⟩
      refine wpAnyD_takeC [12] (i := 0) (v := .func (.func 38) #[] #[.pointer (some ⟨G + 2, 0, none⟩), .pointer (some ⟨G + 3, 0, none⟩)]) rfl (by kernel_rfl) (by kernel_rfl) (by kernel_rfl) (by kernel_rfl) (by kernel_rfl) (by kernel_rfl) (fun _ _ _ h => h) (.inl ⟨by kernel_rfl, fun W' hS => by go_simp⟩) qQ ?_
      refine wpAnyD_takeC [12, 11, 2] (i := 1) (v := .pointer (some ⟨G, 1, none⟩)) rfl (by kernel_rfl) (by kernel_rfl) (by kernel_rfl) (by kernel_rfl) (by kernel_rfl) (by kernel_rfl) (fun _ _ _ h => h) (.inl ⟨by kernel_rfl, fun W' hS => by go_simp⟩) qQ ?_
      refine wpAnyD_takeC [12, 11] (i := 2) (v := .map (some b)) rfl (by kernel_rfl) (by kernel_rfl) (by kernel_rfl) (by kernel_rfl) (by kernel_rfl) (by kernel_rfl) (fun _ _ _ h => h) (.inl ⟨by kernel_rfl, fun W' hS => by have d := (qGr.below hS qGr.lt).two.2; go_simp⟩) qQ ?_
      refine wpAnyD_takeC [12, 11, 10, 9, 4] (i := 3) (v := .pointer (some ⟨G, 0, none⟩)) rfl (by kernel_rfl) (by kernel_rfl) (by kernel_rfl) (by kernel_rfl) (by kernel_rfl) (by kernel_rfl) (fun _ _ _ h => h) (.inl ⟨by kernel_rfl, fun W' hS => by go_simp⟩) qQ ?_
      refine wpAnyD_takeC [12, 11, 10, 9] (i := 4) (v := .slice (some ⟨nb, no, none⟩) (names p).length ncap) rfl (by kernel_rfl) (by kernel_rfl) (by kernel_rfl) (by kernel_rfl) (by kernel_rfl) (by kernel_rfl) (fun _ _ _ h => h) (.inl ⟨by kernel_rfl, fun W' hS => by have d := (qGr.below hS qGr.lt).two.1; go_simp⟩) qQ ?_
      refine wpAnyD_takeC [12, 11, 10, 9, 8, 7] (i := 5) (v := .slice (some ⟨g, 0, none⟩) acc.length c) rfl (by kernel_rfl) (by kernel_rfl) (by kernel_rfl) (by kernel_rfl) (by kernel_rfl) (by kernel_rfl) (fun _ _ _ h => h) (.inl ⟨by kernel_rfl, fun W' hS => by have d := (hr.abox.below hS hr.abox.lt).one.1; go_simp⟩) qQ ?_
      refine wpAnyD_takeC [12, 11, 10, 9, 8, 7] (i := 6) (v := .int .i64 n) rfl (by kernel_rfl) (by kernel_rfl) (by kernel_rfl) (by kernel_rfl) (by kernel_rfl) (by kernel_rfl) (fun _ _ _ h => h) (.inl ⟨by kernel_rfl, fun W' hS => by go_simp⟩) qQ ?_
      refine wpAnyD_takeC [12, 11, 10, 9, 8] (i := 7) (v := .pointer (some ⟨g, n, none⟩)) rfl (by kernel_rfl) (by kernel_rfl) (by kernel_rfl) (by kernel_rfl) (by kernel_rfl) (by kernel_rfl) (fun _ _ _ h => h) (.inl ⟨by kernel_rfl, fun W' hS => by go_simp⟩) qQ ?_
      refine wpAnyD_takeC [12, 11, 10, 9] (i := 8) (v := .int .i64 z) rfl (by kernel_rfl) (by kernel_rfl) (by kernel_rfl) (by kernel_rfl) (by kernel_rfl) (by kernel_rfl) (fun _ _ _ h => h) (.inl ⟨by kernel_rfl, fun W' hS => by have d := (hS.cell (p := ⟨g, n, none⟩) hgl).trans z0; go_simp⟩) qQ ?_
      refine wpAnyD_takeC [12, 11, 10] (i := 9) (v := .pointer (some ⟨nb, no + z, none⟩)) rfl (by kernel_rfl) (by kernel_rfl) (by kernel_rfl) (by kernel_rfl) (by kernel_rfl) (by kernel_rfl) (fun _ _ _ h => h) (.inl ⟨by kernel_rfl, fun W' hS => by go_simp⟩) qQ ?_
      refine wpAnyD_takeC [12, 11] (i := 10) (v := S sz) rfl (by kernel_rfl) (by kernel_rfl) (by kernel_rfl) (by kernel_rfl) (by kernel_rfl) (by kernel_rfl) (fun _ _ _ h => h) (.inl ⟨by kernel_rfl, fun W' hS => by have d := (hS.cell (p := ⟨nb, no + z, none⟩) hnl).trans s0; go_simp⟩) qQ ?_
      have hrd := hr.old qQ
      obtain ⟨va, hla, hnv⟩ := (hgG.below hrd.bel (by omega) (Nat.le_refl _)).look sz hsl
      rw [HGD.out] at hnv
      obtain ⟨a2, c2, rfl, _, _⟩ := hnv.form
      refine wpAnyD_one (i := 11) (by kernel_rfl) rfl (by kernel_rfl) ?_
      go_simp
      have hgl2 : (gD p z).length ≤ (names p).length := deps_length p _
      have hadd := add_any G (G + 4) (G + 3) (G + 2) (G + 1) (G + 1) (.slice a2 (gD p z).length c2) (gD p z) acc _ wr.drew wG hrd hnv (by omega) (fun i hi => by have := hDl z i hi; omega) (by omega)
      refine wpAnyD_one (i := 12) (by kernel_rfl) rfl (by kernel_rfl) ?_
      go_simp
      refine hadd.mono ?_
      clear hadd hla hnv hrd hr
      rintro e w8 ⟨rfl, av8, hr8⟩
      go_simp
      refine wpAnyD_done (by kernel_rfl) ?_ _
      refine onlyN_mk ?_
      go_simp
      have hn8 : n + 1 ≤ ((gD p z).foldl addS acc).length := by
        obtain ⟨t, ht⟩ := foldl_addS_prefix (gD p z) acc
        rw [ht, List.length_append]; omega
      go_wp2_with fail
      exact ⟨⟨n + 1, _, av8, by go_num, hn8, hr8, HST⟩, by simp [intOf]; omega⟩
    · obtain rfl : n = acc.length := by omega
      obtain ⟨a3, c3, rfl, hc3, hc4⟩ := hr.own.form
      have HE := Lib.hid (HC.out.reach (Nat.le_refl _) hdl hDl)
      unfold maxLen at hc4
      have hsrt := sortInts_own (G + 4) _ acc wr hr.own (by omega)
      go_wp2_with fail
      refine hsrt.mono ?_
      clear hsrt
      rintro e w9 ⟨rfl, ho9, hg9⟩
      have hb9 : Below (G + 4) wr w9 := below_grown hg9 (fun r hr' => (ownsRow_cells hr.own hr').1) hr.big
      have hb1 : Below (G + 1) wG w9 := hr.bel.trans (hb9.mono (by omega))
      obtain ⟨x2, x3⟩ := (hr.abox.below hb9 hr.b3).one
      obtain ⟨g0, g1⟩ := (qG.below hb1 (by omega)).two
      have hg1 := hb9.size
      have hbg := hr.big
      have hst := (hgG.below hb1 (by omega) (show G ≤ w9.heap.size by omega)).1
      have hlist := list_any w9.heap.size (.slice na (names p).length ncap) (.map (some b)) (names p) (.slice a3 acc.length c3) (srt acc) w9 hst (by have := ho9.nats; exact this) (Nat.le_refl _) (fun i hi => HC.out.lt hdl hDl i (mem_srt.1 hi)) (by rw [srt_length]; omega)
      go_wp2_with fail
      refine hlist.mono ?_
      clear hlist
      rintro e w10 ⟨x, rfl, hown, hb10⟩
      go_wp2_with fail
      go_ret
      refine ⟨x, rfl, ?_, (hb0G.trans (hb1.mono (by omega))).trans (hb10.mono (by omega))⟩
      rw [HE.out] at hown
      exact hown.mono (by omega)
end Go.Proofs.Ythbnbjigmgoldaa
