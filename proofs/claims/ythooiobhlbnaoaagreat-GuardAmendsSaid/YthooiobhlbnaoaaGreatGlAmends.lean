/- GuardAmends: the walk. No conditions beyond the readings of the arguments. Printed by tools/gen_glamends.py. -/
import Derived.Test.YthooiobhlbnaoaaGreatGlAwk
import Derived.Test.YthooiobhlbnaoaaGreatGlApp
import Derived.Test.YthooiobhlbnaoaaGreatGaInF
import Derived.Test.YthooiobhlbnaoaaGreatGLawS
import Derived.Deep.CutRange
namespace Go.Proofs.YthooiobhlbnaoaaGreat
open Go.RowKit
set_option linter.unusedVariables false

theorem take_filter {P : Nat → Bool} {l : List Nat} {k i : Nat} (h : l[k]? = some i) : (l.take (k + 1)).filter P = (l.take k).filter P ++ if P i then [i] else [] := by
  rw [List.take_add_one, h, List.filter_append]
  congr 1
  simp only [Option.toList_some, List.filter_cons, List.filter_nil]

set_option maxRecDepth 100000 in
set_option maxHeartbeats 8000000 in
theorem glamends_any (K : Nat) (pn : ByteArray) (da ta : Option Addr) (dn dm tn tm : Nat) (vc : Value) (cs : List Gc) (c : Cv) (nm : Str) (d kn : Int) (w : World) (h : Gls K w vc cs) (hcb : CvB c) (hnm : nm.length ≤ maxLen) (hK : K ≤ w.heap.size) :
    Calls Tryz.prog 10 #[.agg #[.string pn, .slice da dn dm, .slice ta tn tm, vc], .agg c.cl.toArray, S nm, .int .i64 d, .int .i64 kn] w fun e w' => e = .returned (.bool true) ∧ Below w.heap.size w w' := by
  obtain ⟨ca, cm, rfl, _, hcm⟩ := id h.form
  obtain ⟨vs, hvs, hvb, hsrc⟩ := gls_src h
  unfold maxLen at hcm
  have HH := Lib.hid h
  obtain ⟨n, hn⟩ : ∃ n, cs.length = n := ⟨_, rfl⟩
  have HN := Lib.hid hn
  rw [hn] at HH hsrc ⊢
  obtain ⟨W1, hW1⟩ : ∃ W1, (w.alloc (.cells #[.string pn, .slice da dn dm, .slice ta tn tm, .slice ca n cm] 85)).alloc (.cells c.cl.toArray 89) = W1 := ⟨_, rfl⟩
  have b1 : Below w.heap.size w W1 := by rw [← hW1]; exact ((Below.refl _ _).alloc (Nat.le_refl _) _).alloc (by simp) _
  have q1 : Blk W1 w.heap.size #[.string pn, .slice da dn dm, .slice ta tn tm, .slice ca n cm] 85 := by rw [← hW1]; exact (Blk.new w _ _).alloc _
  have q2 : Blk W1 (w.heap.size + 1) c.cl.toArray 89 := by
    rw [← hW1]
    have := Blk.new (w.alloc (.cells #[.string pn, .slice da dn dm, .slice ta tn tm, .slice ca n cm] 85)) c.cl.toArray 89
    rwa [World.size_alloc] at this
  have s1 : W1.heap.size = w.heap.size + 2 := by rw [← hW1]; simp
  obtain ⟨B, hB⟩ : ∃ B, w.heap.size = B := ⟨_, rfl⟩
  have HB := Lib.hid hB
  have HW := Lib.hid hW1
  rw [hB] at hK b1 q1 q2 s1 ⊢
  obtain ⟨c0, c1, c2, c3⟩ := q1.four
  have q1l := q1.lt
  have HVS := Lib.hid hvs
  have HVB := Lib.hid hvb
  have HSR := Lib.hid hsrc
  clear h hn hB hW1 hvs hvb hsrc
  by_cases h60 : 60 < n
  · have e60 : decide ((60 : Int) < (n : Int)) = true := by simp; omega
    have haw := glawake_any W1
    go_enter Tryz.func10, Tryz.ntmps10
    go_upto_region 1 with fail
    simp only [HB.out]
    rw [HW.out]
    go_wp2_with fail
    refine haw.mono ?_
    rintro e w2 ⟨rfl, hb2⟩
    go_wp2_with fail
    go_ret
    exact ⟨rfl, b1.trans (hb2.mono (by omega))⟩
  · have e60 : decide ((60 : Int) < (n : Int)) = false := by simp; omega
    go_enter Tryz.func10, Tryz.ntmps10
    go_upto_region 1 with fail
    simp only [HB.out]
    rw [HW.out]
    go_upto_region 4 with fail
    generalize hW3 : World.alloc W1 _ = W3
    have b3' : Below W1.heap.size W1 W3 := by rw [← hW3]; exact (Below.refl _ _).alloc (Nat.le_refl _) _
    have q3 : Blk W3 W1.heap.size #[.string pn, .slice da dn dm, .slice ta tn tm, .slice ca n cm] 85 := by rw [← hW3]; exact Blk.new W1 _ _
    have s3 : W3.heap.size = B + 3 := by rw [← hW3, World.size_alloc, s1]
    rw [s1] at q3
    have q13 := q1.below b3' q1.lt
    have q23 := q2.below b3' q2.lt
    have b3 : Below B w W3 := b1.trans (b3'.mono (by omega))
    have HS3 := Lib.hid s3
    clear hW3 b3' c0 c1 c2 c3 s3 s1 q1 q2 q1l b1
    have hs3 : B + 3 ≤ W3.heap.size := Nat.le_of_eq HS3.out.symm
    go_cut [11] from 26 to 33 (fun s11 wx => ∃ g cap, s11 = .pointer (some ⟨B + 2, 0, none⟩) ∧ Blk wx (B + 2) #[.string pn, .slice da dn dm, .slice ta tn tm, .slice (some ⟨g, 0, none⟩) (n + 1) cap] 85 ∧ Gls wx.heap.size wx (.slice (some ⟨g, 0, none⟩) (n + 1) cap) (cs ++ [gcOf c]) ∧ Below (B + 2) W3 wx)
    case first =>
      have hvl : vs.length = n := by rw [← HN.out, ← HVS.out, List.length_map]
      refine region_plain (fun W' => Below W3.heap.size W3 W') [8] (by kernel_rfl) ?_
      have qS : (fun W' => Below W3.heap.size W3 W') W3.drew := below_quiet (Below.refl _ _)
      refine wpAnyD_take (i := 1) (v := .pointer (some ⟨B, 3, none⟩)) rfl (by kernel_rfl) (by kernel_rfl) (by kernel_rfl) (by kernel_rfl) (by kernel_rfl) (fun _ _ _ h => h) (.inl ⟨by kernel_rfl, fun W' hS => by go_simp⟩) qS ?_
      refine wpAnyD_take (i := 2) (v := .slice ca n cm) rfl (by kernel_rfl) (by kernel_rfl) (by kernel_rfl) (by kernel_rfl) (by kernel_rfl) (fun _ _ _ h => h) (.inl ⟨by kernel_rfl, fun W' hS => by have c3 := (q13.below hS (by omega)).at (i := 3) (x := .slice ca n cm) rfl; go_simp⟩) qS ?_
      refine wpAnyD_take (i := 4) (v := .agg c.cl.toArray) rfl (by kernel_rfl) (by kernel_rfl) (by kernel_rfl) (by kernel_rfl) (by kernel_rfl) (fun _ _ _ h => h) (yieldsIf_load_mid (by kernel_rfl) 89 (.tmp 6) rfl (B + 1) 0 rfl c.cl _ (fun W' hS => cl_own (q23.below hS (by omega))) Tryz.underlying89 rfl (infoCl' c)) qS ?_
      obtain ⟨X0, hX0⟩ : ∃ X, W3.drew = X := ⟨_, rfl⟩
      rw [hX0] at qS ⊢
      have qS : Below W3.heap.size W3 X0 := qS
      clear hX0
      refine wpAnyD_two (i := 0) (j := 5) (by kernel_rfl) rfl rfl (by kernel_rfl) (by kernel_rfl) ?_ ?_
      · go_simp
        generalize hV2 : World.alloc X0 _ = V1
        have hb3 : Below X0.heap.size X0 V1 := by rw [← hV2]; exact (Below.refl _ _).alloc (Nat.le_refl _) _
        have hq0 : Blk V1 X0.heap.size #[] 89 := by rw [← hV2]; exact Blk.new X0 _ _
        have q4 : Below W3.heap.size W3 V1 := qS.trans (hb3.mono qS.size)
        have hown := own_none (base := W3.heap.size) hq0 qS.size
        obtain ⟨ae, hae⟩ : ∃ a, X0.heap.size = a := ⟨_, rfl⟩
        rw [hae] at hown  ⊢
        refine ⟨q4, ?_⟩
        clear hV2
        refine wpAnyD_two (i := 3) (j := 5) (by kernel_rfl) rfl rfl (by kernel_rfl) (by kernel_rfl) ?_ ?_
        · refine wp_append_any (.tmp 26) (.tmp 28) 83 rfl Tryz.underlying83 Tryz.infoClause (by kernel_rfl) (by decide) rfl hown (ao := ca) (m := n) (cap := cm) (ms := vs.map Cv.cl) rfl (by rw [List.length_map, hvl]) (cl_rows _) (fun h0 => by
            obtain ⟨sb, so, sc, he, hsb, hcl⟩ := HSR.out h0
            simp only [Value.slice.injEq] at he
            exact ⟨sb, so, he.1, fun i r j u hr hu => ((b3.trans (q4.mono (by omega))).cell (p := ⟨sb, so + (i * 24 + j), none⟩) (by show sb < B; omega)).trans (hcl i r j u hr hu)⟩) (by simp [maxLen]; omega) (by simp; omega) q4.size ?_
          intro v1 V5 hown1 hg6 hat1
          have q8 : Below W3.heap.size W3 V5 := q4.trans (below_grown hg6 (fun r hr => hown.low hr) q4.size)
          have hown := hown1
          clear hown1
          refine ⟨fun _ => q8, ?_⟩
          refine wpAnyD_one (i := 5) (by kernel_rfl) rfl (by kernel_rfl) ?_
          refine wp_build_cl (.tmp 30) rfl c rfl ?_
          generalize hV10 : World.alloc V5 _ = V9
          have hb11 : Below V5.heap.size V5 V9 := by rw [← hV10]; exact (Below.refl _ _).alloc (Nat.le_refl _) _
          have hqc : Blk V9 V5.heap.size c.cl.toArray 89 := by rw [← hV10]; exact Blk.new V5 _ _
          have q12 : Below W3.heap.size W3 V9 := q8.trans (hb11.mono q8.size)
          have hown := hown.old hb11 (Nat.le_refl _)
          obtain ⟨bc, hbc⟩ : ∃ a, V5.heap.size = a := ⟨_, rfl⟩
          rw [hbc] at hqc  ⊢
          refine ⟨fun _ => q12, ?_⟩
          clear hV10
          refine wpAnyD_one (i := 6) (by kernel_rfl) rfl (by kernel_rfl) ?_
          refine wp_append_rows (.tmp 29) (.tmp 31) 83 rfl Tryz.underlying83 Tryz.infoClause (by kernel_rfl) (by decide) rfl hown (b := bc) (off := 0) (m := 1) (cap := 1) (ms := [c.cl]) rfl rfl (RowsOk.one c.cl_length c.cl_one) (fun i r j u hi hj => by
            match i, hi with
            | 0, hi =>
              simp only [List.getElem?_cons_zero, Option.some.injEq] at hi
              subst hi
              rw [show 0 + (0 * 24 + j) = j by omega]
              exact hqc.at (by simpa using hj)
            | i + 1, hi => simp at hi) (by decide) (by simp [maxLen]; omega) (by simp; omega) q12.size ?_
          intro g cap WE hown2 hg2 hat2
          have hlen : ([] ++ List.map Cv.cl vs).length = n := by simp [hvl]
          rw [hlen] at hown2 ⊢
          have q9 : Below W3.heap.size W3 WE := q12.trans (below_grown hg2 (fun r hr => hown.low hr) q12.size)
          have p3 := q3.below q9 (by omega)
          have f3 := p3.at (i := 3) (x := .slice ca n cm) rfl
          have g3 := p3.free 3
          have hgl : W3.heap.size ≤ g := hown2.low rfl
          refine ⟨fun _ => q9, ?_⟩
          refine wpAnyD_one (i := 7) (by kernel_rfl) rfl (by kernel_rfl) ?_
          go_simp
          refine wpAnyD_one (i := 8) (by kernel_rfl) rfl (by kernel_rfl) ?_
          go_simp
          refine wpAnyD_done (by kernel_rfl) ?_ _
          have hg8 := grownBy_setCell WE (B + 2) 3 (.slice (some ⟨g, 0, none⟩) (n + 1) cap)
          have hown8 : OwnR 24 89 W3.heap.size (WE.setCell ⟨B + 2, 3, none⟩ (.slice (some ⟨g, 0, none⟩) (n + 1) cap)) (.slice (some ⟨g, 0, none⟩) (n + 1) cap) ((vs ++ [c]).map Cv.cl) := by
            have := hown2.kept hg8 (.inr (by intro e; have e : g = B + 2 := Option.some.inj e; omega))
            rwa [show [] ++ List.map Cv.cl vs ++ [c.cl] = (vs ++ [c]).map Cv.cl by simp] at this
          have hgls := hown8.gls (fun x hx => by
            rcases List.mem_append.1 hx with hx | hx
            · exact HVB.out x hx
            · rw [List.mem_singleton.1 hx]; exact hcb)
          rw [List.map_append, HVS.out] at hgls
          have p8 := p3.set (i := 3) (.slice (some ⟨g, 0, none⟩) (n + 1) cap)
          have q8 : Below (B + 2) W3 (WE.setCell ⟨B + 2, 3, none⟩ (.slice (some ⟨g, 0, none⟩) (n + 1) cap)) := (q9.mono (by omega)).setCell (p := ⟨B + 2, 3, none⟩) (show B + 2 ≤ B + 2 by omega) _
          clear f3 g3
          go_wp2_with fail
          go_meet
          exact ⟨g, cap, rfl, p8, hgls, q8⟩
        · refine wp_build_cl (.tmp 30) rfl c rfl ?_
          generalize hV14 : World.alloc V1 _ = V13
          have hb15 : Below V1.heap.size V1 V13 := by rw [← hV14]; exact (Below.refl _ _).alloc (Nat.le_refl _) _
          have hqc : Blk V13 V1.heap.size c.cl.toArray 89 := by rw [← hV14]; exact Blk.new V1 _ _
          have q16 : Below W3.heap.size W3 V13 := q4.trans (hb15.mono q4.size)
          have hlt0 : ae < V1.heap.size := hown.lt rfl
          have hown := hown.old hb15 (Nat.le_refl _)
          obtain ⟨bc, hbc⟩ : ∃ a, V1.heap.size = a := ⟨_, rfl⟩
          rw [hbc] at hqc hlt0 ⊢
          refine ⟨fun _ => q16, ?_⟩
          clear hV14
          refine wpAnyD_one (i := 3) (by kernel_rfl) rfl (by kernel_rfl) ?_
          refine wp_append_any (.tmp 26) (.tmp 28) 83 rfl Tryz.underlying83 Tryz.infoClause (by kernel_rfl) (by decide) rfl hown (ao := ca) (m := n) (cap := cm) (ms := vs.map Cv.cl) rfl (by rw [List.length_map, hvl]) (cl_rows _) (fun h0 => by
            obtain ⟨sb, so, sc, he, hsb, hcl⟩ := HSR.out h0
            simp only [Value.slice.injEq] at he
            exact ⟨sb, so, he.1, fun i r j u hr hu => ((b3.trans (q16.mono (by omega))).cell (p := ⟨sb, so + (i * 24 + j), none⟩) (by show sb < B; omega)).trans (hcl i r j u hr hu)⟩) (by simp [maxLen]; omega) (by simp; omega) q16.size ?_
          intro v1 V17 hown1 hg18 hat1
          have q20 : Below W3.heap.size W3 V17 := q16.trans (below_grown hg18 (fun r hr => hown.low hr) q16.size)
          have hqc := hqc.kept hg18 (fun e => by have e : bc = ae := Option.some.inj e; omega)
          have hown := hown1
          clear hown1
          refine ⟨fun _ => q20, ?_⟩
          refine wpAnyD_one (i := 6) (by kernel_rfl) rfl (by kernel_rfl) ?_
          refine wp_append_rows (.tmp 29) (.tmp 31) 83 rfl Tryz.underlying83 Tryz.infoClause (by kernel_rfl) (by decide) rfl hown (b := bc) (off := 0) (m := 1) (cap := 1) (ms := [c.cl]) rfl rfl (RowsOk.one c.cl_length c.cl_one) (fun i r j u hi hj => by
            match i, hi with
            | 0, hi =>
              simp only [List.getElem?_cons_zero, Option.some.injEq] at hi
              subst hi
              rw [show 0 + (0 * 24 + j) = j by omega]
              exact hqc.at (by simpa using hj)
            | i + 1, hi => simp at hi) (by decide) (by simp [maxLen]; omega) (by simp; omega) q20.size ?_
          intro g cap WE hown2 hg2 hat2
          have hlen : ([] ++ List.map Cv.cl vs).length = n := by simp [hvl]
          rw [hlen] at hown2 ⊢
          have q9 : Below W3.heap.size W3 WE := q20.trans (below_grown hg2 (fun r hr => hown.low hr) q20.size)
          have p3 := q3.below q9 (by omega)
          have f3 := p3.at (i := 3) (x := .slice ca n cm) rfl
          have g3 := p3.free 3
          have hgl : W3.heap.size ≤ g := hown2.low rfl
          refine ⟨fun _ => q9, ?_⟩
          refine wpAnyD_one (i := 7) (by kernel_rfl) rfl (by kernel_rfl) ?_
          go_simp
          refine wpAnyD_one (i := 8) (by kernel_rfl) rfl (by kernel_rfl) ?_
          go_simp
          refine wpAnyD_done (by kernel_rfl) ?_ _
          have hg8 := grownBy_setCell WE (B + 2) 3 (.slice (some ⟨g, 0, none⟩) (n + 1) cap)
          have hown8 : OwnR 24 89 W3.heap.size (WE.setCell ⟨B + 2, 3, none⟩ (.slice (some ⟨g, 0, none⟩) (n + 1) cap)) (.slice (some ⟨g, 0, none⟩) (n + 1) cap) ((vs ++ [c]).map Cv.cl) := by
            have := hown2.kept hg8 (.inr (by intro e; have e : g = B + 2 := Option.some.inj e; omega))
            rwa [show [] ++ List.map Cv.cl vs ++ [c.cl] = (vs ++ [c]).map Cv.cl by simp] at this
          have hgls := hown8.gls (fun x hx => by
            rcases List.mem_append.1 hx with hx | hx
            · exact HVB.out x hx
            · rw [List.mem_singleton.1 hx]; exact hcb)
          rw [List.map_append, HVS.out] at hgls
          have p8 := p3.set (i := 3) (.slice (some ⟨g, 0, none⟩) (n + 1) cap)
          have q8 : Below (B + 2) W3 (WE.setCell ⟨B + 2, 3, none⟩ (.slice (some ⟨g, 0, none⟩) (n + 1) cap)) := (q9.mono (by omega)).setCell (p := ⟨B + 2, 3, none⟩) (show B + 2 ≤ B + 2 by omega) _
          clear f3 g3
          go_wp2_with fail
          go_meet
          exact ⟨g, cap, rfl, p8, hgls, q8⟩
      · refine wp_build_cl (.tmp 30) rfl c rfl ?_
        generalize hV22 : World.alloc X0 _ = V21
        have hb23 : Below X0.heap.size X0 V21 := by rw [← hV22]; exact (Below.refl _ _).alloc (Nat.le_refl _) _
        have hqc : Blk V21 X0.heap.size c.cl.toArray 89 := by rw [← hV22]; exact Blk.new X0 _ _
        have q24 : Below W3.heap.size W3 V21 := qS.trans (hb23.mono qS.size)
        obtain ⟨bc, hbc⟩ : ∃ a, X0.heap.size = a := ⟨_, rfl⟩
        rw [hbc] at hqc  ⊢
        refine ⟨fun _ => q24, ?_⟩
        clear hV22
        refine wpAnyD_one (i := 0) (by kernel_rfl) rfl (by kernel_rfl) ?_
        go_simp
        generalize hV26 : World.alloc V21 _ = V25
        have hb27 : Below V21.heap.size V21 V25 := by rw [← hV26]; exact (Below.refl _ _).alloc (Nat.le_refl _) _
        have hq0 : Blk V25 V21.heap.size #[] 89 := by rw [← hV26]; exact Blk.new V21 _ _
        have q28 : Below W3.heap.size W3 V25 := q24.trans (hb27.mono q24.size)
        have hown := own_none (base := W3.heap.size) hq0 q24.size
        have hlt0 := hqc.lt
        have hqc := hqc.below hb27 hqc.lt
        obtain ⟨ae, hae⟩ : ∃ a, V21.heap.size = a := ⟨_, rfl⟩
        rw [hae] at hown hlt0 ⊢
        refine ⟨q28, ?_⟩
        clear hV26
        refine wpAnyD_one (i := 3) (by kernel_rfl) rfl (by kernel_rfl) ?_
        refine wp_append_any (.tmp 26) (.tmp 28) 83 rfl Tryz.underlying83 Tryz.infoClause (by kernel_rfl) (by decide) rfl hown (ao := ca) (m := n) (cap := cm) (ms := vs.map Cv.cl) rfl (by rw [List.length_map, hvl]) (cl_rows _) (fun h0 => by
          obtain ⟨sb, so, sc, he, hsb, hcl⟩ := HSR.out h0
          simp only [Value.slice.injEq] at he
          exact ⟨sb, so, he.1, fun i r j u hr hu => ((b3.trans (q28.mono (by omega))).cell (p := ⟨sb, so + (i * 24 + j), none⟩) (by show sb < B; omega)).trans (hcl i r j u hr hu)⟩) (by simp [maxLen]; omega) (by simp; omega) q28.size ?_
        intro v1 V29 hown1 hg30 hat1
        have q32 : Below W3.heap.size W3 V29 := q28.trans (below_grown hg30 (fun r hr => hown.low hr) q28.size)
        have hqc := hqc.kept hg30 (fun e => by have e : bc = ae := Option.some.inj e; omega)
        have hown := hown1
        clear hown1
        refine ⟨fun _ => q32, ?_⟩
        refine wpAnyD_one (i := 6) (by kernel_rfl) rfl (by kernel_rfl) ?_
        refine wp_append_rows (.tmp 29) (.tmp 31) 83 rfl Tryz.underlying83 Tryz.infoClause (by kernel_rfl) (by decide) rfl hown (b := bc) (off := 0) (m := 1) (cap := 1) (ms := [c.cl]) rfl rfl (RowsOk.one c.cl_length c.cl_one) (fun i r j u hi hj => by
          match i, hi with
          | 0, hi =>
            simp only [List.getElem?_cons_zero, Option.some.injEq] at hi
            subst hi
            rw [show 0 + (0 * 24 + j) = j by omega]
            exact hqc.at (by simpa using hj)
          | i + 1, hi => simp at hi) (by decide) (by simp [maxLen]; omega) (by simp; omega) q32.size ?_
        intro g cap WE hown2 hg2 hat2
        have hlen : ([] ++ List.map Cv.cl vs).length = n := by simp [hvl]
        rw [hlen] at hown2 ⊢
        have q9 : Below W3.heap.size W3 WE := q32.trans (below_grown hg2 (fun r hr => hown.low hr) q32.size)
        have p3 := q3.below q9 (by omega)
        have f3 := p3.at (i := 3) (x := .slice ca n cm) rfl
        have g3 := p3.free 3
        have hgl : W3.heap.size ≤ g := hown2.low rfl
        refine ⟨fun _ => q9, ?_⟩
        refine wpAnyD_one (i := 7) (by kernel_rfl) rfl (by kernel_rfl) ?_
        go_simp
        refine wpAnyD_one (i := 8) (by kernel_rfl) rfl (by kernel_rfl) ?_
        go_simp
        refine wpAnyD_done (by kernel_rfl) ?_ _
        have hg8 := grownBy_setCell WE (B + 2) 3 (.slice (some ⟨g, 0, none⟩) (n + 1) cap)
        have hown8 : OwnR 24 89 W3.heap.size (WE.setCell ⟨B + 2, 3, none⟩ (.slice (some ⟨g, 0, none⟩) (n + 1) cap)) (.slice (some ⟨g, 0, none⟩) (n + 1) cap) ((vs ++ [c]).map Cv.cl) := by
          have := hown2.kept hg8 (.inr (by intro e; have e : g = B + 2 := Option.some.inj e; omega))
          rwa [show [] ++ List.map Cv.cl vs ++ [c.cl] = (vs ++ [c]).map Cv.cl by simp] at this
        have hgls := hown8.gls (fun x hx => by
          rcases List.mem_append.1 hx with hx | hx
          · exact HVB.out x hx
          · rw [List.mem_singleton.1 hx]; exact hcb)
        rw [List.map_append, HVS.out] at hgls
        have p8 := p3.set (i := 3) (.slice (some ⟨g, 0, none⟩) (n + 1) cap)
        have q8 : Below (B + 2) W3 (WE.setCell ⟨B + 2, 3, none⟩ (.slice (some ⟨g, 0, none⟩) (n + 1) cap)) := (q9.mono (by omega)).setCell (p := ⟨B + 2, 3, none⟩) (show B + 2 ≤ B + 2 by omega) _
        clear f3 g3
        go_wp2_with fail
        go_meet
        exact ⟨g, cap, rfl, p8, hgls, q8⟩
    case rest =>
      obtain ⟨X, rfl⟩ : ∃ X : World, X = wc := ⟨_, rfl⟩
      obtain ⟨g, cap, rfl, q2, hq, hbc⟩ := hcut
      have q1 := q13.below hbc (by omega)
      have q3 := q23.below hbc (by omega)
      have bX : Below B w X := b3.trans (hbc.mono (by omega))
      have sX := hbc.size
      have hp : Gls K X (.slice ca n cm) cs := HH.out.below bX (by omega) (Nat.le_refl _)
      have hlen : cs.length ≤ 2 ^ 38 := by rw [HN.out]; omega
      have hlen2 : (cs ++ [gcOf c]).length ≤ 2 ^ 38 := by simp; rw [HN.out]; omega
      have hin : ∀ W, Below X.heap.size X W → Calls Tryz.prog 38 #[.agg #[.string pn, .slice da dn dm, .slice ta tn tm, .slice ca n cm], S nm, .int .i64 d, .int .i64 kn] W fun e w' => ∃ v, e = .returned v ∧ OwnN W.heap.size w' v (forceL cs nm d kn) ∧ Below W.heap.size W w' := fun W hb => inforce_any K pn _ _ _ cs nm d kn W (hp.below hb (by omega) (Nat.le_refl _)) rfl rfl (by have := hb.size; omega) hlen hnm
      have hqn : ∀ W, Below X.heap.size X W → Calls Tryz.prog 38 #[.agg #[.string pn, .slice da dn dm, .slice ta tn tm, .slice (some ⟨g, 0, none⟩) (n + 1) cap], S nm, .int .i64 d, .int .i64 kn] W fun e w' => ∃ v, e = .returned v ∧ OwnN W.heap.size w' v (forceL (cs ++ [gcOf c]) nm d kn) ∧ Below W.heap.size W w' := fun W hb => inforce_any X.heap.size pn _ _ _ (cs ++ [gcOf c]) nm d kn W (hq.below hb (Nat.le_refl _) (Nat.le_refl _)) rfl rfl hb.size hlen2 hnm
      have HIN := Lib.hid hin
      have HQN := Lib.hid hqn
      clear hin hqn hlen hlen2 q13 q23 b3
      obtain ⟨L, hL⟩ : ∃ L, forceL cs nm d kn = L := ⟨_, rfl⟩
      obtain ⟨M, hM⟩ : ∃ M, forceL (cs ++ [gcOf c]) nm d kn = M := ⟨_, rfl⟩
      rw [hL] at HIN
      rw [hM] at HQN
      have HL := Lib.hid hL
      have HM := Lib.hid hM
      clear hL hM
      go_upto_region 5 with fail
      refine region_plain (fun W' => Below X.heap.size X W') [] (by kernel_rfl) ?_
      have qS : (fun W' => Below X.heap.size X W') X.drew := below_quiet (Below.refl _ _)
      refine wpAnyD_take (i := 0) (v := .agg #[.string pn, .slice da dn dm, .slice ta tn tm, .slice ca n cm]) rfl (by kernel_rfl) (by kernel_rfl) (by kernel_rfl) (by kernel_rfl) (by kernel_rfl) (fun _ _ _ h => h) (.inl ⟨by kernel_rfl, fun W' hS => by obtain ⟨c0, c1, c2, c3⟩ := (q1.below hS (by omega)).four; go_simp⟩) qS ?_
      refine wpAnyD_take (i := 1) (v := S nm) rfl (by kernel_rfl) (by kernel_rfl) (by kernel_rfl) (by kernel_rfl) (by kernel_rfl) (fun _ _ _ h => h) (.inl ⟨by kernel_rfl, fun W' hS => by go_simp⟩) qS ?_
      refine wpAnyD_take (i := 2) (v := .int .i64 d) rfl (by kernel_rfl) (by kernel_rfl) (by kernel_rfl) (by kernel_rfl) (by kernel_rfl) (fun _ _ _ h => h) (.inl ⟨by kernel_rfl, fun W' hS => by go_simp⟩) qS ?_
      refine wpAnyD_take (i := 3) (v := .int .i64 kn) rfl (by kernel_rfl) (by kernel_rfl) (by kernel_rfl) (by kernel_rfl) (by kernel_rfl) (fun _ _ _ h => h) (.inl ⟨by kernel_rfl, fun W' hS => by go_simp⟩) qS ?_
      refine wpAnyD_take (i := 5) (v := .agg #[.string pn, .slice da dn dm, .slice ta tn tm, .slice (some ⟨g, 0, none⟩) (n + 1) cap]) rfl (by kernel_rfl) (by kernel_rfl) (by kernel_rfl) (by kernel_rfl) (by kernel_rfl) (fun _ _ _ h => h) (.inl ⟨by kernel_rfl, fun W' hS => by obtain ⟨c0, c1, c2, c3⟩ := (q2.below hS (by omega)).four; go_simp⟩) qS ?_
      refine wpAnyD_take (i := 6) (v := S nm) rfl (by kernel_rfl) (by kernel_rfl) (by kernel_rfl) (by kernel_rfl) (by kernel_rfl) (fun _ _ _ h => h) (.inl ⟨by kernel_rfl, fun W' hS => by go_simp⟩) qS ?_
      refine wpAnyD_take (i := 7) (v := .int .i64 d) rfl (by kernel_rfl) (by kernel_rfl) (by kernel_rfl) (by kernel_rfl) (by kernel_rfl) (fun _ _ _ h => h) (.inl ⟨by kernel_rfl, fun W' hS => by go_simp⟩) qS ?_
      refine wpAnyD_take (i := 8) (v := .int .i64 kn) rfl (by kernel_rfl) (by kernel_rfl) (by kernel_rfl) (by kernel_rfl) (by kernel_rfl) (fun _ _ _ h => h) (.inl ⟨by kernel_rfl, fun W' hS => by go_simp⟩) qS ?_
      refine wpAnyD_one (i := 4) (by kernel_rfl) rfl (by kernel_rfl) ?_
      go_simp
      refine (HIN.out _ qS).mono ?_
      rintro e w3 ⟨v3, rfl, ho3, hb3⟩
      have qS3 : Below X.heap.size X w3 := qS.trans (hb3.mono qS.size)
      obtain ⟨a3, c3', rfl, _⟩ := ho3.nats.form
      have hn3 := ho3.nats
      clear ho3
      refine ⟨qS3, ?_⟩
      refine wpAnyD_one (i := 9) (by kernel_rfl) rfl (by kernel_rfl) ?_
      go_simp
      refine (HQN.out _ qS3).mono ?_
      rintro e Y ⟨v4, rfl, ho4, hb4⟩
      have qY : Below X.heap.size X Y := qS3.trans (hb4.mono qS3.size)
      obtain ⟨a4, c4, rfl, _⟩ := ho4.nats.form
      have hnM := ho4.nats
      have hnL := hn3.below hb4 (Nat.le_refl _) hb4.size
      clear ho4 hn3 hb4 hb3 qS3
      refine ⟨qY, ?_⟩
      refine wpAnyD_one (i := 10) (by kernel_rfl) rfl (by kernel_rfl) ?_
      go_simp
      refine wpAnyD_one (i := 11) (by kernel_rfl) rfl (by kernel_rfl) ?_
      go_simp
      refine wpAnyD_done (by kernel_rfl) ?_ _
      replace q1 := q1.below qY (by omega)
      replace q2 := q2.below qY (by omega)
      replace q3 := q3.below qY (by omega)
      replace hp := hp.below qY (by omega) (Nat.le_refl _)
      replace hq := hq.below qY (Nat.le_refl _) qY.size
      have bY : Below B w Y := bX.trans (qY.mono (by omega))
      have sY : B + 3 ≤ Y.heap.size := by have := qY.size; omega
      clear bX qY qS sX hbc
      have hcell : ∀ W, Blk W (B + 1) c.cl.toArray 89 → ∀ i, i < 24 → W.cell? ⟨B + 1, i, none⟩ = some (c.cell i) := fun W hW i hi => hW.at (by rw [List.getElem?_toArray]; exact c.cl_at hi)
      have HCELL := Lib.hid hcell
      have n0 : Y.cell? ⟨B + 1, 0, none⟩ = some (S c.nm) := hcell Y q3 0 (by omega)
      have n2 : Y.cell? ⟨B + 1, 2, none⟩ = some (.int .i64 c.fr) := hcell Y q3 2 (by omega)
      have n3 : Y.cell? ⟨B + 1, 3, none⟩ = some (.int .i64 c.to) := hcell Y q3 3 (by omega)
      have n4 : Y.cell? ⟨B + 1, 4, none⟩ = some (.int .i64 c.kn) := hcell Y q3 4 (by omega)
      clear hcell
      have HQ1 := Lib.hid q1
      have HQ2 := Lib.hid q2
      have HQ3 := Lib.hid q3
      clear q1 q2 q3
      obtain ⟨r, hr⟩ : ∃ r, cov (gcOf c) nm d kn = r := ⟨_, rfl⟩
      have HR := Lib.hid hr
      clear hr
      have HF : Hid (¬ ((c.nm == nm) = true ∧ (c.fr ≤ d ∧ d < c.to) ∧ c.kn ≤ kn) → r = false) := Lib.hid fun hn => by
        rw [← HR.out]
        unfold cov gcOf
        simp only [Bool.and_eq_false_iff, decide_eq_false_iff_not]
        by_cases h1 : (c.nm == nm) = true
        · simp only [h1, true_and] at hn
          omega
        · exact .inl (.inl (.inl (by simpa using h1)))
      have HT : Hid ((c.nm == nm) = true → (decide (d < c.fr) || decide (c.to ≤ d) || decide (kn < c.kn)) = !r) := Lib.hid fun h1 => by
        rw [← HR.out]
        unfold cov gcOf
        simp only [h1, Bool.true_and]
        by_cases h2 : d < c.fr
        · simp [h2]
        · by_cases h3 : c.to ≤ d
          · simp [h3]
          · by_cases h4 : kn < c.kn <;> simp [h2, h3, h4] <;> omega
      go_upto_region 6 with fail
      go_cut [65] from 44 to 65 (fun s65 wx => s65 = .bool (!r) ∧ Y = wx)
      case first =>
        obtain ⟨ct, hct⟩ : ∃ ct, (c.nm == nm) = ct := ⟨_, rfl⟩
        have HCT := Lib.hid hct
        cases ct with
        | false =>
          have HE := Lib.hid (HF.out fun hh => by have := hh.1; rw [HCT.out] at this; cases this)
          go_wp2_with fail
          all_goals go_meet
          all_goals
            refine ⟨?_, rfl⟩
            rw [HE.out]; rfl
        | true =>
          go_wp2_with fail
          all_goals go_meet
          all_goals
            first
              | exact ⟨congrArg Value.bool (HT.out HCT.out), rfl⟩
              | exact ⟨by rw [HF.out fun hh => by have := hh.2; omega]; rfl, rfl⟩
      case rest =>
      obtain ⟨rfl, rfl⟩ := hcut
      clear n0 n2 n3 n4 HF HT
      cases r with
      | false =>
        have hLM : (L == M) = true := by rw [← HL.out, ← HM.out, amends_out HR.out]; simp
        have haw := glawake_any
        have HAW := Lib.hid haw
        have hgi := gints_any Y.heap.size _ _ L M Y hnL hnM
        rw [hLM] at hgi
        clear hLM haw hnL hnM
        go_wp2_with fail
        refine hgi.mono ?_
        rintro e w5 ⟨rfl, k5, rfl⟩
        have b5 : Below B w (Y.drewN k5) := below_drewN2 bY _
        have s5 : B ≤ (Y.drewN k5).heap.size := by show B ≤ Y.heap.size; omega
        generalize Y.drewN k5 = Y5 at b5 s5 ⊢
        clear hgi
        go_wp2_with fail
        refine (HAW.out _).mono ?_
        rintro e w6 ⟨rfl, hb6⟩
        have b6 := b5.trans (hb6.mono s5)
        go_wp2_with fail
        go_ret
        exact ⟨rfl, b6⟩
      | true =>
        have HNL := Lib.hid hnL
        have HNM := Lib.hid hnM
        clear hnL hnM
        go_wp2_with fail
        have HP := Lib.hid hp
        have HGQ := Lib.hid hq
        clear hp hq
        go_loopw [14, 74] (fun xv kv wr => ∃ k, k ≤ L.length ∧ kv = .int .i64 k ∧ OwnN Y.heap.size wr xv ((L.take k).filter (fun i => !((gAt (cs) i).lb == (gcOf c).lb))) ∧ Below Y.heap.size Y wr) (fun _ kv _ => L.length - (intOf kv).toNat)
        case atStart => exact ⟨0, Nat.zero_le _, rfl, OwnN.nil _ _, Below.refl _ _⟩
        case round =>
          obtain ⟨k, hk, rfl, ho, hbr⟩ := hrel
          obtain ⟨wo, rfl⟩ : ∃ wo : World, wo = wr := ⟨_, rfl⟩
          obtain ⟨la, lc, rfl, _, _⟩ := ho.form
          have HO := Lib.hid ho
          clear ho
          have hsr := hbr.size
          by_cases hlt : k < L.length
          · obtain ⟨lb, lo, lcap, he, _, _, hlK, hlc⟩ := HNL.out.pos (by omega)
            simp only [Value.slice.injEq, true_and] at he
            obtain ⟨rfl, rfl⟩ := he
            obtain ⟨i, hi⟩ : ∃ i, L[k]? = some i := ⟨_, List.getElem?_eq_getElem hlt⟩
            have hz := (hbr.cell (p := ⟨lb, lo + k, none⟩) hlK).trans (hlc k hlt)
            rw [hi, Option.getD_some] at hz
            have hin : i < n := by
              have hm : i ∈ L := List.mem_of_getElem? hi
              rw [← HL.out] at hm
              have := (forced_at hm).1
              rw [HN.out] at this; exact this
            obtain ⟨gf, hg, hgi⟩ := HP.out
            have hln : (cs).length = n := by exact HN.out
            have hgk := hgi i (by omega)
            rw [hln] at hg
            obtain ⟨pb, po, pcap, he, _, _, hpK, hpc⟩ := hg.pos (by omega)
            simp only [Value.slice.injEq, true_and] at he
            obtain HE := Lib.hid he
            clear he
            have hlb : wo.cell? ⟨pb, po + i * 24 + 1, none⟩ = some (S (gf i).lb) := by
              have := (hbr.cell (p := ⟨pb, po + (i * 24 + 1), none⟩) (by show pb < Y.heap.size; omega)).trans (hpc i hin 1 (by omega))
              rwa [← Nat.add_assoc] at this
            have hgl2 := hgk.2.2
            have hge : (gAt (cs) i).lb = (gf i).lb := by rw [← hgk.1]; rfl
            have n1 : wo.cell? ⟨B + 1, 1, none⟩ = some (S c.lb) := HCELL.out wo (HQ3.out.below hbr (by omega)) 1 (by omega)
            obtain ⟨c0, c1, c2, c3⟩ := (HQ1.out.below hbr (by omega)).four
            obtain ⟨rfl, rfl⟩ := HE.out
            obtain ⟨t, ht⟩ : ∃ t, ((gf i).lb == c.lb) = t := ⟨_, rfl⟩
            have HLB : Hid (((gAt (cs) i).lb == (gcOf c).lb) = t) := Lib.hid (by rw [hge]; exact ht)
            have hin2 : (i : Int) < (n : Int) := by omega
            have HI := Lib.hid hi
            have HLT := Lib.hid hlt
            have hk40 : L.length < 2 ^ 40 := by
              have := forceL_length (cs := cs) (nm := nm) (d := d) (kn := kn)
              rw [HL.out, hln] at this
              omega
            have hk40' : (L.take k).length < 2 ^ 40 := by rw [List.length_take]; omega
            have HFL : Hid ((((L.take k).filter (fun i => !((gAt (cs) i).lb == (gcOf c).lb))).length + 1 ≤ 2 ^ 40)) := Lib.hid (by have := List.length_filter_le (fun i => !((gAt (cs) i).lb == (gcOf c).lb)) (L.take k); omega)
            clear hge hi hpc hlc hg hgi hgk hk40' hln
            go_upto_region 12 with fail
            go_quiet (fail)
            cases t with
            | true =>
              go_wp2_with fail
              have HT1 := take_filter (P := (fun i => !((gAt (cs) i).lb == (gcOf c).lb))) HI.out
              rw [HLB.out] at HT1
              simp only [Bool.not_true, Bool.false_eq_true, if_false, List.append_nil] at HT1
              exact ⟨⟨k + 1, HLT.out, by go_num, by rw [HT1]; exact HO.out.old (below_drewN2 (Below.refl _ _) _) (Nat.le_refl _), below_drewN2 hbr _⟩, by have := HLT.out; simp [intOf]; omega⟩
            | false =>
              have HOD : Hid (∀ z, OwnN Y.heap.size (wo.drewN z) _ _) := Lib.hid fun z => HO.out.old (below_drewN2 (Below.refl _ _) z) (Nat.le_refl _)
              go_wp2_with (at_builtin; refine wpList_append_N rfl (.tmp 87) (.tmp 89) rfl rfl rfl ((HOD.out _).old ((Below.refl _ _).alloc (Nat.le_refl _) _) (Nat.le_refl _)) ((Blk.new (wo.drewN _) #[Z i] _).at rfl) HFL.out (by simp; omega) ?_; intro g1 cap1 w6 hown6 hg6 hat6)
              have HT1 := take_filter (P := (fun i => !((gAt (cs) i).lb == (gcOf c).lb))) HI.out
              rw [HLB.out] at HT1
              simp only [Bool.not_false, if_true] at HT1
              have hb6 : Below Y.heap.size Y w6 := ((below_drewN2 hbr _).alloc (by show _ ≤ wo.heap.size; omega) _).trans (below_grown hg6 (fun r e => (ownsRow_cells HO.out e).1) (by simp; omega))
              exact ⟨⟨_, _, .int .i64 ((k + 1 : Nat) : Int), ⟨k + 1, HLT.out, rfl, by rw [HT1]; exact hown6, hb6⟩, rfl, rfl, rfl⟩, by have := HLT.out; simp [intOf]; omega⟩
          · obtain rfl : k = L.length := by omega
            obtain ⟨Z1, rfl⟩ : ∃ Z1 : World, Z1 = wo := ⟨_, rfl⟩
            have HGQ1 := Lib.hid (HGQ.out.below hbr (Nat.le_refl _) hsr)
            have HNM1 := Lib.hid (HNM.out.below hbr (Nat.le_refl _) hsr)
            obtain ⟨XL, hXL⟩ : ∃ XL, (L.take L.length).filter (fun i => !((gAt cs i).lb == (gcOf c).lb)) = XL := ⟨_, rfl⟩
            rw [hXL] at HO ⊢
            rw [List.take_length] at hXL
            have HXL := Lib.hid hXL
            clear hXL
            have HNX := Lib.hid HO.out.nats
            have HO1 := HO
            clear HO
            have hby := hbr
            have hsy := hsr
            clear hbr hsr
            go_wp2_with fail
            go_loopw [15, 94] (fun xv kv wr => ∃ k, k ≤ M.length ∧ kv = .int .i64 k ∧ OwnN Z1.heap.size wr xv ((M.take k).filter (fun i => !((gAt (cs ++ [gcOf c]) i).lb == (gcOf c).lb))) ∧ Below Z1.heap.size Z1 wr) (fun _ kv _ => M.length - (intOf kv).toNat)
            case atStart => exact ⟨0, Nat.zero_le _, rfl, OwnN.nil _ _, Below.refl _ _⟩
            case round =>
              obtain ⟨k, hk, rfl, ho, hbr⟩ := hrel
              obtain ⟨wo, rfl⟩ : ∃ wo : World, wo = wr := ⟨_, rfl⟩
              obtain ⟨la, lc, rfl, _, _⟩ := ho.form
              have HO := Lib.hid ho
              clear ho
              have hsr := hbr.size
              by_cases hlt : k < M.length
              · obtain ⟨lb, lo, lcap, he, _, _, hlK, hlc⟩ := HNM1.out.pos (by omega)
                simp only [Value.slice.injEq, true_and] at he
                obtain ⟨rfl, rfl⟩ := he
                obtain ⟨i, hi⟩ : ∃ i, M[k]? = some i := ⟨_, List.getElem?_eq_getElem hlt⟩
                have hz := (hbr.cell (p := ⟨lb, lo + k, none⟩) hlK).trans (hlc k hlt)
                rw [hi, Option.getD_some] at hz
                have hin : i < n + 1 := by
                  have hm : i ∈ M := List.mem_of_getElem? hi
                  rw [← HM.out] at hm
                  have := (forced_at hm).1
                  rw [List.length_append, HN.out] at this; exact this
                obtain ⟨gf, hg, hgi⟩ := HGQ1.out
                have hln : (cs ++ [gcOf c]).length = n + 1 := by rw [List.length_append, HN.out]; rfl
                have hgk := hgi i (by omega)
                rw [hln] at hg
                obtain ⟨pb, po, pcap, he, _, _, hpK, hpc⟩ := hg.pos (by omega)
                simp only [Value.slice.injEq, Option.some.injEq, Addr.mk.injEq, true_and, and_true] at he
                obtain HE := Lib.hid he
                clear he
                have hlb : wo.cell? ⟨pb, po + i * 24 + 1, none⟩ = some (S (gf i).lb) := by
                  have := (hbr.cell (p := ⟨pb, po + (i * 24 + 1), none⟩) (by show pb < Z1.heap.size; omega)).trans (hpc i hin 1 (by omega))
                  rwa [← Nat.add_assoc] at this
                have hgl2 := hgk.2.2
                have hge : (gAt (cs ++ [gcOf c]) i).lb = (gf i).lb := by rw [← hgk.1]; rfl
                have n1 : wo.cell? ⟨B + 1, 1, none⟩ = some (S c.lb) := HCELL.out wo (HQ3.out.below (hby.trans (hbr.mono hsy)) (by omega)) 1 (by omega)
                obtain ⟨c0, c1, c2, c3⟩ := (HQ2.out.below (hby.trans (hbr.mono hsy)) (by omega)).four
                obtain ⟨⟨rfl, rfl⟩, rfl⟩ := HE.out; rw [Nat.zero_add] at hlb
                obtain ⟨t, ht⟩ : ∃ t, ((gf i).lb == c.lb) = t := ⟨_, rfl⟩
                have HLB : Hid (((gAt (cs ++ [gcOf c]) i).lb == (gcOf c).lb) = t) := Lib.hid (by rw [hge]; exact ht)
                have hin2 : (i : Int) < (n : Int) + 1 := by omega
                have HI := Lib.hid hi
                have HLT := Lib.hid hlt
                have hk40 : M.length < 2 ^ 40 := by
                  have := forceL_length (cs := cs ++ [gcOf c]) (nm := nm) (d := d) (kn := kn)
                  rw [HM.out, hln] at this
                  omega
                have hk40' : (M.take k).length < 2 ^ 40 := by rw [List.length_take]; omega
                have HFL : Hid ((((M.take k).filter (fun i => !((gAt (cs ++ [gcOf c]) i).lb == (gcOf c).lb))).length + 1 ≤ 2 ^ 40)) := Lib.hid (by have := List.length_filter_le (fun i => !((gAt (cs ++ [gcOf c]) i).lb == (gcOf c).lb)) (M.take k); omega)
                clear hge hi hpc hlc hg hgi hgk hk40' hln
                go_upto_region 18 with fail
                go_quiet (fail)
                cases t with
                | true =>
                  go_wp2_with fail
                  have HT1 := take_filter (P := (fun i => !((gAt (cs ++ [gcOf c]) i).lb == (gcOf c).lb))) HI.out
                  rw [HLB.out] at HT1
                  simp only [Bool.not_true, Bool.false_eq_true, if_false, List.append_nil] at HT1
                  exact ⟨⟨k + 1, HLT.out, by go_num, by rw [HT1]; exact HO.out.old (below_drewN2 (Below.refl _ _) _) (Nat.le_refl _), below_drewN2 hbr _⟩, by have := HLT.out; simp [intOf]; omega⟩
                | false =>
                  have HOD : Hid (∀ z, OwnN Z1.heap.size (wo.drewN z) _ _) := Lib.hid fun z => HO.out.old (below_drewN2 (Below.refl _ _) z) (Nat.le_refl _)
                  go_wp2_with (at_builtin; refine wpList_append_N rfl (.tmp 107) (.tmp 109) rfl rfl rfl ((HOD.out _).old ((Below.refl _ _).alloc (Nat.le_refl _) _) (Nat.le_refl _)) ((Blk.new (wo.drewN _) #[Z i] _).at rfl) HFL.out (by simp; omega) ?_; intro g1 cap1 w6 hown6 hg6 hat6)
                  have HT1 := take_filter (P := (fun i => !((gAt (cs ++ [gcOf c]) i).lb == (gcOf c).lb))) HI.out
                  rw [HLB.out] at HT1
                  simp only [Bool.not_false, if_true] at HT1
                  have hb6 : Below Z1.heap.size Z1 w6 := ((below_drewN2 hbr _).alloc (by show _ ≤ wo.heap.size; omega) _).trans (below_grown hg6 (fun r e => (ownsRow_cells HO.out e).1) (by simp; omega))
                  exact ⟨⟨_, _, .int .i64 ((k + 1 : Nat) : Int), ⟨k + 1, HLT.out, rfl, by rw [HT1]; exact hown6, hb6⟩, rfl, rfl, rfl⟩, by have := HLT.out; simp [intOf]; omega⟩
              · obtain rfl : k = M.length := by omega
                obtain ⟨YL, hYL⟩ : ∃ YL, (M.take M.length).filter (fun i => !((gAt (cs ++ [gcOf c]) i).lb == (gcOf c).lb)) = YL := ⟨_, rfl⟩
                rw [hYL] at HO ⊢
                rw [List.take_length] at hYL
                have hXY : (XL == YL) = true := by
                  rw [← HXL.out, ← hYL, ← HL.out, ← HM.out, amends_other (gcOf c)]; simp
                have hle : M.length ≤ L.length + 1 := by rw [← HL.out, ← HM.out]; exact amends_length (gcOf c)
                have hL40 : L.length < 2 ^ 40 := by
                  have := forceL_length (cs := cs) (nm := nm) (d := d) (kn := kn)
                  rw [HL.out, HN.out] at this
                  omega
                have hdec : decide (M.length ≤ L.length + 1) = true := by simp; omega
                have hny := HO.out.nats
                have hnx := HNX.out.below hbr (Nat.le_refl _) hsr
                have hgi := gints_any wo.heap.size _ _ XL YL wo hnx hny
                rw [hXY] at hgi
                have haw := glawake_any
                have HAW := Lib.hid haw
                have bwo : Below B w wo := bY.trans ((hby.trans (hbr.mono hsy)).mono (by omega))
                have swo : B ≤ wo.heap.size := by omega
                have hle2 : (M.length : Int) ≤ (L.length : Int) + 1 := by omega
                clear hYL hXY haw hnx hny hbr hby hsr hsy
                go_wp2_with fail
                refine hgi.mono ?_
                rintro e w5 ⟨rfl, k5, rfl⟩
                have b5 : Below B w (wo.drewN k5) := below_drewN2 bwo _
                have s5 : B ≤ (wo.drewN k5).heap.size := by show B ≤ wo.heap.size; omega
                generalize wo.drewN k5 = Y5 at b5 s5 ⊢
                clear hgi
                go_wp2_with fail
                refine (HAW.out _).mono ?_
                rintro e w6 ⟨rfl, hb6⟩
                have b6 := b5.trans (hb6.mono s5)
                go_wp2_with fail
                go_ret
                exact ⟨rfl, b6⟩
end Go.Proofs.YthooiobhlbnaoaaGreat
