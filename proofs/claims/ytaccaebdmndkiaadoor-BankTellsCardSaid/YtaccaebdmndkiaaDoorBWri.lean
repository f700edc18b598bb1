/- The statements' function writes of layer 36. No conditions beyond those stated. -/
import Derived.Test.YtaccaebdmndkiaaDoorBOld2
import Derived.Test.YtaccaebdmndkiaaDoorBAwake
import Derived.Test.YtaccaebdmndkiaaDoorBRMatch
import Derived.Test.YtaccaebdmndkiaaDoorBRWrite
import Derived.Test.YtaccaebdmndkiaaDoorBRWriteA
namespace Go.Proofs.YtaccaebdmndkiaaDoor
open Go.RowKit
set_option linter.unusedVariables false

section
variable {P : Program} {ops : Array Oper} {Q : Exit → Act → World → Prop} {md : Region.Mode} {S : World → Prop} {D : List Nat}
theorem wpAnyD_two {i j : Nat} {o o' : Oper} {fuel : Nat} {listed : Array Bool} {a : Act} {w : World} (hr : Region.ready md ops listed = [i, j]) (ho : ops[i]? = some o) (ho' : ops[j]? = some o')
    (hw : Region.wanted o (yielded ops a.tmps) = true) (hw' : Region.wanted o' (yielded ops a.tmps) = true)
    (h : o.wp P a w (fun a' w' => (i ∉ D → S w') ∧ wpAnyD P md ops Q S D fuel (listed.setIfInBounds i true) a' w') Q)
    (h' : o'.wp P a w (fun a' w' => (j ∉ D → S w') ∧ wpAnyD P md ops Q S D fuel (listed.setIfInBounds j true) a' w') Q) : wpAnyD P md ops Q S D (fuel + 1) listed a w :=
  ⟨fun h0 => by rw [hr] at h0; simp at h0, fun k hk => by
    rw [hr] at hk
    simp only [List.mem_cons, List.not_mem_nil, or_false] at hk
    rcases hk with rfl | rfl
    · exact wpOp_of ho hw h
    · exact wpOp_of ho' hw' h'⟩
theorem wpAnyD_three {i j k : Nat} {o o' o'' : Oper} {fuel : Nat} {listed : Array Bool} {a : Act} {w : World} (hr : Region.ready md ops listed = [i, j, k]) (ho : ops[i]? = some o) (ho' : ops[j]? = some o') (ho'' : ops[k]? = some o'')
    (hw : Region.wanted o (yielded ops a.tmps) = true) (hw' : Region.wanted o' (yielded ops a.tmps) = true) (hw'' : Region.wanted o'' (yielded ops a.tmps) = true)
    (h : o.wp P a w (fun a' w' => (i ∉ D → S w') ∧ wpAnyD P md ops Q S D fuel (listed.setIfInBounds i true) a' w') Q)
    (h' : o'.wp P a w (fun a' w' => (j ∉ D → S w') ∧ wpAnyD P md ops Q S D fuel (listed.setIfInBounds j true) a' w') Q)
    (h'' : o''.wp P a w (fun a' w' => (k ∉ D → S w') ∧ wpAnyD P md ops Q S D fuel (listed.setIfInBounds k true) a' w') Q) : wpAnyD P md ops Q S D (fuel + 1) listed a w :=
  ⟨fun h0 => by rw [hr] at h0; simp at h0, fun m hk => by
    rw [hr] at hk
    simp only [List.mem_cons, List.not_mem_nil, or_false] at hk
    rcases hk with rfl | rfl | rfl
    · exact wpOp_of ho hw h
    · exact wpOp_of ho' hw' h'
    · exact wpOp_of ho'' hw'' h''⟩
end

theorem put3 {w : World} {b t : Nat} {x0 x1 x2 : Value} (h : Blk w b #[x0, x1, x2] t) (y0 y1 y2 : Value) {base : Nat} (hb : base ≤ b) :
    ∃ w', ((w.setCell ⟨b, 0, none⟩ y0).setCell ⟨b, 1, none⟩ y1).setCell ⟨b, 2, none⟩ y2 = w' ∧ Blk w' b #[y0, y1, y2] t ∧ Below base w w' ∧ w'.heap.size = w.heap.size ∧
      (∀ {b' t' : Nat} {cs : Array Value}, Blk w b' cs t' → b' ≠ b → Blk w' b' cs t') ∧ (∀ {base' : Nat} {v : Value} {l : List Rt}, OwnR base' w v l → t ≠ 70 → OwnR base' w' v l) := by
  have q1 := h.set (i := 0) y0
  have q2 := q1.set (i := 1) y1
  have q3 := q2.set (i := 2) y2
  refine ⟨_, rfl, q3, (((Below.refl base w).setCell (p := ⟨b, 0, none⟩) hb _).setCell (p := ⟨b, 1, none⟩) hb _).setCell (p := ⟨b, 2, none⟩) hb _, by simp, fun hq hne => ((hq.other hne _).other hne _).other hne _, fun ho ht => ((ho.setB h ht _).setB q1 ht _).setB q2 ht _⟩

/-- What holds when both are laid: the reference's file and answer. -/
def Two (K0 : Nat) (n d : Int) (v : Value) (an ad : Int) (rs : List Rt) (w0 wx : World) (r5 r6 : Nat) (oa : Option Addr) (oc : Nat) : Prop :=
  w0.heap.size ≤ r5 ∧ w0.heap.size ≤ r6 ∧ Blk wx r5 #[.int .i64 n, .int .i64 d, v] 30 ∧ Blk wx r6 #[.int .i64 an, .int .i64 ad, .slice oa rs.length oc] 36 ∧ OwnR w0.heap.size wx (.slice oa rs.length oc) rs ∧ Below w0.heap.size w0 wx

set_option maxRecDepth 100000 in
set_option maxHeartbeats 4000000 in
theorem writes_any (K : Nat) (n d : Int) (l : List Od) (v : Value) (an ad : Int) (rs : List Rt) (u : Value) (w : World) (hv : Ords K w v l) (hu : Rets K w u rs) (hK : K ≤ w.heap.size) (hT : Tabs w.heap.size w) (hrl : rs.length ≤ 1000) :
    Calls Tryd.prog 16 #[.agg #[.int .i64 n, .int .i64 d, v], .agg #[.int .i64 an, .int .i64 ad, u]] w fun e w' => e = .returned (.bool true) ∧ Below w.heap.size w w' := by
  have hvl : ∃ a cap, v = .slice a l.length cap := by obtain ⟨a, cap, rfl, _⟩ := hv; exact ⟨a, cap, rfl⟩
  obtain ⟨va, vcap, rfl⟩ := hvl
  have hul : ∃ a cap, u = .slice a rs.length cap := by obtain ⟨a, cap, rfl, _⟩ := hu; exact ⟨a, cap, rfl⟩
  obtain ⟨ua, ucap, rfl⟩ := hul
  have hb1 : Below w.heap.size w ((w.alloc (.cells #[.int .i64 n, .int .i64 d, .slice va l.length vcap] 24)).alloc (.cells #[.int .i64 an, .int .i64 ad, .slice ua rs.length ucap] 27)) := ((Below.refl _ w).alloc (Nat.le_refl _) _).alloc (by simp) _
  have q1 := (Blk.new w #[.int .i64 n, .int .i64 d, .slice va l.length vcap] 24).alloc (.cells #[.int .i64 an, .int .i64 ad, .slice ua rs.length ucap] 27)
  have q2 := Blk.new (w.alloc (.cells #[.int .i64 n, .int .i64 d, .slice va l.length vcap] 24)) #[.int .i64 an, .int .i64 ad, .slice ua rs.length ucap] 27
  rw [World.size_alloc] at q2
  obtain ⟨W1, hW1⟩ : ∃ W1, (w.alloc (.cells #[.int .i64 n, .int .i64 d, .slice va l.length vcap] 24)).alloc (.cells #[.int .i64 an, .int .i64 ad, .slice ua rs.length ucap] 27) = W1 := ⟨_, rfl⟩
  rw [hW1] at hb1 q1 q2
  have HW1 := Lib.hid hW1
  clear hW1
  have hs1 := q2.lt
  have hT1 := hT.up hb1 hb1.size
  have hv1 : Ords W1.heap.size W1 (.slice va l.length vcap) l := hv.below hb1 hK (Nat.le_trans hK hb1.size)
  have hu1 : Rets W1.heap.size W1 (.slice ua rs.length ucap) rs := hu.below hb1 hK (Nat.le_trans hK hb1.size)
  clear hv hu hT
  have hll : rs.length ≤ 8796093021952 := by omega
  go_enter Tryd.func16, Tryd.ntmps16
  go_upto_region 1 with fail
  rw [HW1.out]
  go_cut [5, 6] from 23 to 26 (fun s5 s6 wx => ∃ r5 r6 oa oc, s5 = .pointer (some ⟨r5, 0, none⟩) ∧ s6 = .pointer (some ⟨r6, 0, none⟩) ∧ Two K n d (.slice va l.length vcap) an ad rs W1 wx r5 r6 oa oc)
  case first =>
    refine region_plain (fun W => Blk W w.heap.size #[.int .i64 n, .int .i64 d, .slice va l.length vcap] 24 ∧ Blk W (w.heap.size + 1) #[.int .i64 an, .int .i64 ad, .slice ua rs.length ucap] 27) [] (by kernel_rfl) ?_
    have q0 : Blk W1.drew w.heap.size #[.int .i64 n, .int .i64 d, .slice va l.length vcap] 24 ∧ Blk W1.drew (w.heap.size + 1) #[.int .i64 an, .int .i64 ad, .slice ua rs.length ucap] 27 := ⟨q1, q2⟩
    refine wpAnyD_take (i := 0) (v := .agg #[.int .i64 n, .int .i64 d, .slice va l.length vcap]) rfl (by kernel_rfl) (by kernel_rfl) (by kernel_rfl) (by kernel_rfl) (by kernel_rfl) (fun _ _ _ h => h) (.inl ⟨by kernel_rfl, fun W' hS => by obtain ⟨c0, c1, c2⟩ := hS.1.three; go_simp⟩) q0 ?_
    refine wpAnyD_take (i := 2) (v := .agg #[.int .i64 an, .int .i64 ad, .slice ua rs.length ucap]) rfl (by kernel_rfl) (by kernel_rfl) (by kernel_rfl) (by kernel_rfl) (by kernel_rfl) (fun _ _ _ h => h) (.inl ⟨by kernel_rfl, fun W' hS => by obtain ⟨c0, c1, c2⟩ := hS.2.three; go_simp⟩) q0 ?_
    obtain ⟨X0, hX0⟩ : ∃ X, W1.drew = X := ⟨_, rfl⟩
    have hk : Below W1.heap.size W1 X0 := hX0 ▸ (Below.refl _ W1).drew
    rw [hX0] at q0 ⊢
    clear hX0
    refine wpAnyD_three (i := 1) (j := 4) (k := 5) (by kernel_rfl) rfl rfl rfl (by kernel_rfl) (by kernel_rfl) (by kernel_rfl) ?_ ?_ ?_
    · go_simp
      refine (plainF_any n d va l.length vcap X0).mono ?_
      rintro e X1 ⟨rfl, hbj⟩
      have hk := hk.trans (hbj.mono hk.size)
      have q0 : Blk X1 w.heap.size #[.int .i64 n, .int .i64 d, .slice va l.length vcap] 24 ∧ Blk X1 (w.heap.size + 1) #[.int .i64 an, .int .i64 ad, .slice ua rs.length ucap] 27 := ⟨q1.below hk (by omega), q2.below hk hs1⟩
      refine ⟨q0, ?_⟩
      clear hbj
      refine wpAnyD_three (i := 3) (j := 4) (k := 5) (by kernel_rfl) rfl rfl rfl (by kernel_rfl) (by kernel_rfl) (by kernel_rfl) ?_ ?_ ?_
      · go_simp
        refine (old_any W1.heap.size an ad rs (.slice ua rs.length ucap) X1 (Recs.below hu1 hk (Nat.le_refl _) (Nat.le_refl _)) hk.size hll).mono ?_
        rintro e X2 ⟨oa, oc, rfl, hO, hbj⟩
        have hO := hO.mono hk.size
        have hk := hk.trans (hbj.mono hk.size)
        have q0 : Blk X2 w.heap.size #[.int .i64 n, .int .i64 d, .slice va l.length vcap] 24 ∧ Blk X2 (w.heap.size + 1) #[.int .i64 an, .int .i64 ad, .slice ua rs.length ucap] 27 := ⟨q1.below hk (by omega), q2.below hk hs1⟩
        refine ⟨q0, ?_⟩
        clear hbj
        refine wpAnyD_two (i := 4) (j := 5) (by kernel_rfl) rfl rfl (by kernel_rfl) (by kernel_rfl) ?_ ?_
        · go_simp
          have q5 := Blk.new X2 #[.int .i64 0, .int .i64 0, .slice none 0 0] 30
          have hr5 := hk.size
          have hbj : Below X2.heap.size X2 (X2.alloc (.cells #[.int .i64 0, .int .i64 0, .slice none 0 0] 30)) := (Below.refl _ X2).alloc (Nat.le_refl _) _
          obtain ⟨X3, hX⟩ : ∃ X, X2.alloc (.cells #[.int .i64 0, .int .i64 0, .slice none 0 0] 30) = X := ⟨_, rfl⟩
          obtain ⟨r5, hr⟩ : ∃ r, X2.heap.size = r := ⟨_, rfl⟩
          rw [hX] at q5 hbj ⊢
          rw [hr] at q5 hr5 ⊢
          clear hX hr
          have hO := hO.old hbj
          have hk := hk.trans (hbj.mono hk.size)
          have q0 : Blk X3 w.heap.size #[.int .i64 n, .int .i64 d, .slice va l.length vcap] 24 ∧ Blk X3 (w.heap.size + 1) #[.int .i64 an, .int .i64 ad, .slice ua rs.length ucap] 27 := ⟨q1.below hk (by omega), q2.below hk hs1⟩
          refine ⟨q0, ?_⟩
          clear hbj
          refine wpAnyD_one (i := 5) (by kernel_rfl) rfl (by kernel_rfl) ?_
          go_simp
          have q6 := Blk.new X3 #[.int .i64 0, .int .i64 0, .slice none 0 0] 36
          have hr6 := hk.size
          have hbj : Below X3.heap.size X3 (X3.alloc (.cells #[.int .i64 0, .int .i64 0, .slice none 0 0] 36)) := (Below.refl _ X3).alloc (Nat.le_refl _) _
          obtain ⟨X4, hX⟩ : ∃ X, X3.alloc (.cells #[.int .i64 0, .int .i64 0, .slice none 0 0] 36) = X := ⟨_, rfl⟩
          obtain ⟨r6, hr⟩ : ∃ r, X3.heap.size = r := ⟨_, rfl⟩
          rw [hX] at q6 hbj ⊢
          rw [hr] at q6 hr6 ⊢
          clear hX hr
          have q5 := q5.below hbj q5.lt
          have hO := hO.old hbj
          have hk := hk.trans (hbj.mono hk.size)
          have q0 : Blk X4 w.heap.size #[.int .i64 n, .int .i64 d, .slice va l.length vcap] 24 ∧ Blk X4 (w.heap.size + 1) #[.int .i64 an, .int .i64 ad, .slice ua rs.length ucap] 27 := ⟨q1.below hk (by omega), q2.below hk hs1⟩
          refine ⟨q0, ?_⟩
          clear hbj
          obtain ⟨c0, c1, c2⟩ := q5.three
          have f0 := q5.free 0
          have f1 := q5.free 1
          have f2 := q5.free 2
          refine wpAnyD_one (i := 6) (by kernel_rfl) rfl (by kernel_rfl) ?_
          go_simp
          obtain ⟨Y1, hY1, y5, hyb, hys, hyB, hyO⟩ := put3 q5 (.int .i64 n) (.int .i64 d) (.slice va l.length vcap) hr5
          rw [hY1]
          have hn56 : r6 ≠ r5 := by
            rintro rfl
            unfold Blk at q5 q6
            rw [q5] at q6
            injection q6 with h1
            injection h1 with _ h2 _
            exact absurd h2 (by decide)
          have y6 := hyB q6 hn56
          have yO := hyO hO (by decide)
          have hk := hk.trans hyb
          have q0 : Blk Y1 w.heap.size #[.int .i64 n, .int .i64 d, .slice va l.length vcap] 24 ∧ Blk Y1 (w.heap.size + 1) #[.int .i64 an, .int .i64 ad, .slice ua rs.length ucap] 27 := ⟨q1.below hk (by omega), q2.below hk hs1⟩
          refine ⟨q0, ?_⟩
          clear c0 c1 c2 f0 f1 f2 hY1 q5 q6 hO hyB hyO hyb
          obtain ⟨c0, c1, c2⟩ := y6.three
          have f0 := y6.free 0
          have f1 := y6.free 1
          have f2 := y6.free 2
          refine wpAnyD_one (i := 7) (by kernel_rfl) rfl (by kernel_rfl) ?_
          go_simp
          obtain ⟨Y2, hY2, z6, hyb, hys, hyB, hyO⟩ := put3 y6 (.int .i64 an) (.int .i64 ad) (.slice oa rs.length oc) hr6
          rw [hY2]
          have z5 := hyB y5 (Ne.symm hn56)
          have zO := hyO yO (by decide)
          have hk := hk.trans hyb
          have q0 : Blk Y2 w.heap.size #[.int .i64 n, .int .i64 d, .slice va l.length vcap] 24 ∧ Blk Y2 (w.heap.size + 1) #[.int .i64 an, .int .i64 ad, .slice ua rs.length ucap] 27 := ⟨q1.below hk (by omega), q2.below hk hs1⟩
          refine ⟨q0, ?_⟩
          clear c0 c1 c2 f0 f1 f2 hY2 y5 y6 yO hyB hyO hyb
          refine wpAnyD_done (by kernel_rfl) ?_ _
          go_wp2_with fail
          go_meet
          exact ⟨r5, r6, oa, oc, rfl, rfl, hr5, hr6, z5, z6, zO, hk⟩
        · go_simp
          have q6 := Blk.new X2 #[.int .i64 0, .int .i64 0, .slice none 0 0] 36
          have hr6 := hk.size
          have hbj : Below X2.heap.size X2 (X2.alloc (.cells #[.int .i64 0, .int .i64 0, .slice none 0 0] 36)) := (Below.refl _ X2).alloc (Nat.le_refl _) _
          obtain ⟨X5, hX⟩ : ∃ X, X2.alloc (.cells #[.int .i64 0, .int .i64 0, .slice none 0 0] 36) = X := ⟨_, rfl⟩
          obtain ⟨r6, hr⟩ : ∃ r, X2.heap.size = r := ⟨_, rfl⟩
          rw [hX] at q6 hbj ⊢
          rw [hr] at q6 hr6 ⊢
          clear hX hr
          have hO := hO.old hbj
          have hk := hk.trans (hbj.mono hk.size)
          have q0 : Blk X5 w.heap.size #[.int .i64 n, .int .i64 d, .slice va l.length vcap] 24 ∧ Blk X5 (w.heap.size + 1) #[.int .i64 an, .int .i64 ad, .slice ua rs.length ucap] 27 := ⟨q1.below hk (by omega), q2.below hk hs1⟩
          refine ⟨q0, ?_⟩
          clear hbj
          refine wpAnyD_one (i := 4) (by kernel_rfl) rfl (by kernel_rfl) ?_
          go_simp
          have q5 := Blk.new X5 #[.int .i64 0, .int .i64 0, .slice none 0 0] 30
          have hr5 := hk.size
          have hbj : Below X5.heap.size X5 (X5.alloc (.cells #[.int .i64 0, .int .i64 0, .slice none 0 0] 30)) := (Below.refl _ X5).alloc (Nat.le_refl _) _
          obtain ⟨X6, hX⟩ : ∃ X, X5.alloc (.cells #[.int .i64 0, .int .i64 0, .slice none 0 0] 30) = X := ⟨_, rfl⟩
          obtain ⟨r5, hr⟩ : ∃ r, X5.heap.size = r := ⟨_, rfl⟩
          rw [hX] at q5 hbj ⊢
          rw [hr] at q5 hr5 ⊢
          clear hX hr
          have q6 := q6.below hbj q6.lt
          have hO := hO.old hbj
          have hk := hk.trans (hbj.mono hk.size)
          have q0 : Blk X6 w.heap.size #[.int .i64 n, .int .i64 d, .slice va l.length vcap] 24 ∧ Blk X6 (w.heap.size + 1) #[.int .i64 an, .int .i64 ad, .slice ua rs.length ucap] 27 := ⟨q1.below hk (by omega), q2.below hk hs1⟩
          refine ⟨q0, ?_⟩
          clear hbj
          obtain ⟨c0, c1, c2⟩ := q5.three
          have f0 := q5.free 0
          have f1 := q5.free 1
          have f2 := q5.free 2
          refine wpAnyD_one (i := 6) (by kernel_rfl) rfl (by kernel_rfl) ?_
          go_simp
          obtain ⟨Y1, hY1, y5, hyb, hys, hyB, hyO⟩ := put3 q5 (.int .i64 n) (.int .i64 d) (.slice va l.length vcap) hr5
          rw [hY1]
          have hn56 : r6 ≠ r5 := by
            rintro rfl
            unfold Blk at q5 q6
            rw [q5] at q6
            injection q6 with h1
            injection h1 with _ h2 _
            exact absurd h2 (by decide)
          have y6 := hyB q6 hn56
          have yO := hyO hO (by decide)
          have hk := hk.trans hyb
          have q0 : Blk Y1 w.heap.size #[.int .i64 n, .int .i64 d, .slice va l.length vcap] 24 ∧ Blk Y1 (w.heap.size + 1) #[.int .i64 an, .int .i64 ad, .slice ua rs.length ucap] 27 := ⟨q1.below hk (by omega), q2.below hk hs1⟩
          refine ⟨q0, ?_⟩
          clear c0 c1 c2 f0 f1 f2 hY1 q5 q6 hO hyB hyO hyb
          obtain ⟨c0, c1, c2⟩ := y6.three
          have f0 := y6.free 0
          have f1 := y6.free 1
          have f2 := y6.free 2
          refine wpAnyD_one (i := 7) (by kernel_rfl) rfl (by kernel_rfl) ?_
          go_simp
          obtain ⟨Y2, hY2, z6, hyb, hys, hyB, hyO⟩ := put3 y6 (.int .i64 an) (.int .i64 ad) (.slice oa rs.length oc) hr6
          rw [hY2]
          have z5 := hyB y5 (Ne.symm hn56)
          have zO := hyO yO (by decide)
          have hk := hk.trans hyb
          have q0 : Blk Y2 w.heap.size #[.int .i64 n, .int .i64 d, .slice va l.length vcap] 24 ∧ Blk Y2 (w.heap.size + 1) #[.int .i64 an, .int .i64 ad, .slice ua rs.length ucap] 27 := ⟨q1.below hk (by omega), q2.below hk hs1⟩
          refine ⟨q0, ?_⟩
          clear c0 c1 c2 f0 f1 f2 hY2 y5 y6 yO hyB hyO hyb
          refine wpAnyD_done (by kernel_rfl) ?_ _
          go_wp2_with fail
          go_meet
          exact ⟨r5, r6, oa, oc, rfl, rfl, hr5, hr6, z5, z6, zO, hk⟩
      · go_simp
        have q5 := Blk.new X1 #[.int .i64 0, .int .i64 0, .slice none 0 0] 30
        have hr5 := hk.size
        have hbj : Below X1.heap.size X1 (X1.alloc (.cells #[.int .i64 0, .int .i64 0, .slice none 0 0] 30)) := (Below.refl _ X1).alloc (Nat.le_refl _) _
        obtain ⟨X7, hX⟩ : ∃ X, X1.alloc (.cells #[.int .i64 0, .int .i64 0, .slice none 0 0] 30) = X := ⟨_, rfl⟩
        obtain ⟨r5, hr⟩ : ∃ r, X1.heap.size = r := ⟨_, rfl⟩
        rw [hX] at q5 hbj ⊢
        rw [hr] at q5 hr5 ⊢
        clear hX hr
        have hk := hk.trans (hbj.mono hk.size)
        have q0 : Blk X7 w.heap.size #[.int .i64 n, .int .i64 d, .slice va l.length vcap] 24 ∧ Blk X7 (w.heap.size + 1) #[.int .i64 an, .int .i64 ad, .slice ua rs.length ucap] 27 := ⟨q1.below hk (by omega), q2.below hk hs1⟩
        refine ⟨q0, ?_⟩
        clear hbj
        refine wpAnyD_two (i := 3) (j := 5) (by kernel_rfl) rfl rfl (by kernel_rfl) (by kernel_rfl) ?_ ?_
        · go_simp
          refine (old_any W1.heap.size an ad rs (.slice ua rs.length ucap) X7 (Recs.below hu1 hk (Nat.le_refl _) (Nat.le_refl _)) hk.size hll).mono ?_
          rintro e X8 ⟨oa, oc, rfl, hO, hbj⟩
          have hO := hO.mono hk.size
          have q5 := q5.below hbj q5.lt
          have hk := hk.trans (hbj.mono hk.size)
          have q0 : Blk X8 w.heap.size #[.int .i64 n, .int .i64 d, .slice va l.length vcap] 24 ∧ Blk X8 (w.heap.size + 1) #[.int .i64 an, .int .i64 ad, .slice ua rs.length ucap] 27 := ⟨q1.below hk (by omega), q2.below hk hs1⟩
          refine ⟨q0, ?_⟩
          clear hbj
          refine wpAnyD_one (i := 5) (by kernel_rfl) rfl (by kernel_rfl) ?_
          go_simp
          have q6 := Blk.new X8 #[.int .i64 0, .int .i64 0, .slice none 0 0] 36
          have hr6 := hk.size
          have hbj : Below X8.heap.size X8 (X8.alloc (.cells #[.int .i64 0, .int .i64 0, .slice none 0 0] 36)) := (Below.refl _ X8).alloc (Nat.le_refl _) _
          obtain ⟨X9, hX⟩ : ∃ X, X8.alloc (.cells #[.int .i64 0, .int .i64 0, .slice none 0 0] 36) = X := ⟨_, rfl⟩
          obtain ⟨r6, hr⟩ : ∃ r, X8.heap.size = r := ⟨_, rfl⟩
          rw [hX] at q6 hbj ⊢
          rw [hr] at q6 hr6 ⊢
          clear hX hr
          have q5 := q5.below hbj q5.lt
          have hO := hO.old hbj
          have hk := hk.trans (hbj.mono hk.size)
          have q0 : Blk X9 w.heap.size #[.int .i64 n, .int .i64 d, .slice va l.length vcap] 24 ∧ Blk X9 (w.heap.size + 1) #[.int .i64 an, .int .i64 ad, .slice ua rs.length ucap] 27 := ⟨q1.below hk (by omega), q2.below hk hs1⟩
          refine ⟨q0, ?_⟩
          clear hbj
          obtain ⟨c0, c1, c2⟩ := q5.three
          have f0 := q5.free 0
          have f1 := q5.free 1
          have f2 := q5.free 2
          refine wpAnyD_one (i := 6) (by kernel_rfl) rfl (by kernel_rfl) ?_
          go_simp
          obtain ⟨Y1, hY1, y5, hyb, hys, hyB, hyO⟩ := put3 q5 (.int .i64 n) (.int .i64 d) (.slice va l.length vcap) hr5
          rw [hY1]
          have hn56 : r6 ≠ r5 := by
            rintro rfl
            unfold Blk at q5 q6
            rw [q5] at q6
            injection q6 with h1
            injection h1 with _ h2 _
            exact absurd h2 (by decide)
          have y6 := hyB q6 hn56
          have yO := hyO hO (by decide)
          have hk := hk.trans hyb
          have q0 : Blk Y1 w.heap.size #[.int .i64 n, .int .i64 d, .slice va l.length vcap] 24 ∧ Blk Y1 (w.heap.size + 1) #[.int .i64 an, .int .i64 ad, .slice ua rs.length ucap] 27 := ⟨q1.below hk (by omega), q2.below hk hs1⟩
          refine ⟨q0, ?_⟩
          clear c0 c1 c2 f0 f1 f2 hY1 q5 q6 hO hyB hyO hyb
          obtain ⟨c0, c1, c2⟩ := y6.three
          have f0 := y6.free 0
          have f1 := y6.free 1
          have f2 := y6.free 2
          refine wpAnyD_one (i := 7) (by kernel_rfl) rfl (by kernel_rfl) ?_
          go_simp
          obtain ⟨Y2, hY2, z6, hyb, hys, hyB, hyO⟩ := put3 y6 (.int .i64 an) (.int .i64 ad) (.slice oa rs.length oc) hr6
          rw [hY2]
          have z5 := hyB y5 (Ne.symm hn56)
          have zO := hyO yO (by decide)
          have hk := hk.trans hyb
          have q0 : Blk Y2 w.heap.size #[.int .i64 n, .int .i64 d, .slice va l.length vcap] 24 ∧ Blk Y2 (w.heap.size + 1) #[.int .i64 an, .int .i64 ad, .slice ua rs.length ucap] 27 := ⟨q1.below hk (by omega), q2.below hk hs1⟩
          refine ⟨q0, ?_⟩
          clear c0 c1 c2 f0 f1 f2 hY2 y5 y6 yO hyB hyO hyb
          refine wpAnyD_done (by kernel_rfl) ?_ _
          go_wp2_with fail
          go_meet
          exact ⟨r5, r6, oa, oc, rfl, rfl, hr5, hr6, z5, z6, zO, hk⟩
        · go_simp
          have q6 := Blk.new X7 #[.int .i64 0, .int .i64 0, .slice none 0 0] 36
          have hr6 := hk.size
          have hbj : Below X7.heap.size X7 (X7.alloc (.cells #[.int .i64 0, .int .i64 0, .slice none 0 0] 36)) := (Below.refl _ X7).alloc (Nat.le_refl _) _
          obtain ⟨X10, hX⟩ : ∃ X, X7.alloc (.cells #[.int .i64 0, .int .i64 0, .slice none 0 0] 36) = X := ⟨_, rfl⟩
          obtain ⟨r6, hr⟩ : ∃ r, X7.heap.size = r := ⟨_, rfl⟩
          rw [hX] at q6 hbj ⊢
          rw [hr] at q6 hr6 ⊢
          clear hX hr
          have q5 := q5.below hbj q5.lt
          have hk := hk.trans (hbj.mono hk.size)
          have q0 : Blk X10 w.heap.size #[.int .i64 n, .int .i64 d, .slice va l.length vcap] 24 ∧ Blk X10 (w.heap.size + 1) #[.int .i64 an, .int .i64 ad, .slice ua rs.length ucap] 27 := ⟨q1.below hk (by omega), q2.below hk hs1⟩
          refine ⟨q0, ?_⟩
          clear hbj
          refine wpAnyD_one (i := 3) (by kernel_rfl) rfl (by kernel_rfl) ?_
          go_simp
          refine (old_any W1.heap.size an ad rs (.slice ua rs.length ucap) X10 (Recs.below hu1 hk (Nat.le_refl _) (Nat.le_refl _)) hk.size hll).mono ?_
          rintro e X11 ⟨oa, oc, rfl, hO, hbj⟩
          have hO := hO.mono hk.size
          have q5 := q5.below hbj q5.lt
          have q6 := q6.below hbj q6.lt
          have hk := hk.trans (hbj.mono hk.size)
          have q0 : Blk X11 w.heap.size #[.int .i64 n, .int .i64 d, .slice va l.length vcap] 24 ∧ Blk X11 (w.heap.size + 1) #[.int .i64 an, .int .i64 ad, .slice ua rs.length ucap] 27 := ⟨q1.below hk (by omega), q2.below hk hs1⟩
          refine ⟨q0, ?_⟩
          clear hbj
          obtain ⟨c0, c1, c2⟩ := q5.three
          have f0 := q5.free 0
          have f1 := q5.free 1
          have f2 := q5.free 2
          refine wpAnyD_one (i := 6) (by kernel_rfl) rfl (by kernel_rfl) ?_
          go_simp
          obtain ⟨Y1, hY1, y5, hyb, hys, hyB, hyO⟩ := put3 q5 (.int .i64 n) (.int .i64 d) (.slice va l.length vcap) hr5
          rw [hY1]
          have hn56 : r6 ≠ r5 := by
            rintro rfl
            unfold Blk at q5 q6
            rw [q5] at q6
            injection q6 with h1
            injection h1 with _ h2 _
            exact absurd h2 (by decide)
          have y6 := hyB q6 hn56
          have yO := hyO hO (by decide)
          have hk := hk.trans hyb
          have q0 : Blk Y1 w.heap.size #[.int .i64 n, .int .i64 d, .slice va l.length vcap] 24 ∧ Blk Y1 (w.heap.size + 1) #[.int .i64 an, .int .i64 ad, .slice ua rs.length ucap] 27 := ⟨q1.below hk (by omega), q2.below hk hs1⟩
          refine ⟨q0, ?_⟩
          clear c0 c1 c2 f0 f1 f2 hY1 q5 q6 hO hyB hyO hyb
          obtain ⟨c0, c1, c2⟩ := y6.three
          have f0 := y6.free 0
          have f1 := y6.free 1
          have f2 := y6.free 2
          refine wpAnyD_one (i := 7) (by kernel_rfl) rfl (by kernel_rfl) ?_
          go_simp
          obtain ⟨Y2, hY2, z6, hyb, hys, hyB, hyO⟩ := put3 y6 (.int .i64 an) (.int .i64 ad) (.slice oa rs.length oc) hr6
          rw [hY2]
          have z5 := hyB y5 (Ne.symm hn56)
          have zO := hyO yO (by decide)
          have hk := hk.trans hyb
          have q0 : Blk Y2 w.heap.size #[.int .i64 n, .int .i64 d, .slice va l.length vcap] 24 ∧ Blk Y2 (w.heap.size + 1) #[.int .i64 an, .int .i64 ad, .slice ua rs.length ucap] 27 := ⟨q1.below hk (by omega), q2.below hk hs1⟩
          refine ⟨q0, ?_⟩
          clear c0 c1 c2 f0 f1 f2 hY2 y5 y6 yO hyB hyO hyb
          refine wpAnyD_done (by kernel_rfl) ?_ _
          go_wp2_with fail
          go_meet
          exact ⟨r5, r6, oa, oc, rfl, rfl, hr5, hr6, z5, z6, zO, hk⟩
      · go_simp
        have q6 := Blk.new X1 #[.int .i64 0, .int .i64 0, .slice none 0 0] 36
        have hr6 := hk.size
        have hbj : Below X1.heap.size X1 (X1.alloc (.cells #[.int .i64 0, .int .i64 0, .slice none 0 0] 36)) := (Below.refl _ X1).alloc (Nat.le_refl _) _
        obtain ⟨X12, hX⟩ : ∃ X, X1.alloc (.cells #[.int .i64 0, .int .i64 0, .slice none 0 0] 36) = X := ⟨_, rfl⟩
        obtain ⟨r6, hr⟩ : ∃ r, X1.heap.size = r := ⟨_, rfl⟩
        rw [hX] at q6 hbj ⊢
        rw [hr] at q6 hr6 ⊢
        clear hX hr
        have hk := hk.trans (hbj.mono hk.size)
        have q0 : Blk X12 w.heap.size #[.int .i64 n, .int .i64 d, .slice va l.length vcap] 24 ∧ Blk X12 (w.heap.size + 1) #[.int .i64 an, .int .i64 ad, .slice ua rs.length ucap] 27 := ⟨q1.below hk (by omega), q2.below hk hs1⟩
        refine ⟨q0, ?_⟩
        clear hbj
        refine wpAnyD_two (i := 3) (j := 4) (by kernel_rfl) rfl rfl (by kernel_rfl) (by kernel_rfl) ?_ ?_
        · go_simp
          refine (old_any W1.heap.size an ad rs (.slice ua rs.length ucap) X12 (Recs.below hu1 hk (Nat.le_refl _) (Nat.le_refl _)) hk.size hll).mono ?_
          rintro e X13 ⟨oa, oc, rfl, hO, hbj⟩
          have hO := hO.mono hk.size
          have q6 := q6.below hbj q6.lt
          have hk := hk.trans (hbj.mono hk.size)
          have q0 : Blk X13 w.heap.size #[.int .i64 n, .int .i64 d, .slice va l.length vcap] 24 ∧ Blk X13 (w.heap.size + 1) #[.int .i64 an, .int .i64 ad, .slice ua rs.length ucap] 27 := ⟨q1.below hk (by omega), q2.below hk hs1⟩
          refine ⟨q0, ?_⟩
          clear hbj
          refine wpAnyD_one (i := 4) (by kernel_rfl) rfl (by kernel_rfl) ?_
          go_simp
          have q5 := Blk.new X13 #[.int .i64 0, .int .i64 0, .slice none 0 0] 30
          have hr5 := hk.size
          have hbj : Below X13.heap.size X13 (X13.alloc (.cells #[.int .i64 0, .int .i64 0, .slice none 0 0] 30)) := (Below.refl _ X13).alloc (Nat.le_refl _) _
          obtain ⟨X14, hX⟩ : ∃ X, X13.alloc (.cells #[.int .i64 0, .int .i64 0, .slice none 0 0] 30) = X := ⟨_, rfl⟩
          obtain ⟨r5, hr⟩ : ∃ r, X13.heap.size = r := ⟨_, rfl⟩
          rw [hX] at q5 hbj ⊢
          rw [hr] at q5 hr5 ⊢
          clear hX hr
          have q6 := q6.below hbj q6.lt
          have hO := hO.old hbj
          have hk := hk.trans (hbj.mono hk.size)
          have q0 : Blk X14 w.heap.size #[.int .i64 n, .int .i64 d, .slice va l.length vcap] 24 ∧ Blk X14 (w.heap.size + 1) #[.int .i64 an, .int .i64 ad, .slice ua rs.length ucap] 27 := ⟨q1.below hk (by omega), q2.below hk hs1⟩
          refine ⟨q0, ?_⟩
          clear hbj
          obtain ⟨c0, c1, c2⟩ := q5.three
          have f0 := q5.free 0
          have f1 := q5.free 1
          have f2 := q5.free 2
          refine wpAnyD_one (i := 6) (by kernel_rfl) rfl (by kernel_rfl) ?_
          go_simp
          obtain ⟨Y1, hY1, y5, hyb, hys, hyB, hyO⟩ := put3 q5 (.int .i64 n) (.int .i64 d) (.slice va l.length vcap) hr5
          rw [hY1]
          have hn56 : r6 ≠ r5 := by
            rintro rfl
            unfold Blk at q5 q6
            rw [q5] at q6
            injection q6 with h1
            injection h1 with _ h2 _
            exact absurd h2 (by decide)
          have y6 := hyB q6 hn56
          have yO := hyO hO (by decide)
          have hk := hk.trans hyb
          have q0 : Blk Y1 w.heap.size #[.int .i64 n, .int .i64 d, .slice va l.length vcap] 24 ∧ Blk Y1 (w.heap.size + 1) #[.int .i64 an, .int .i64 ad, .slice ua rs.length ucap] 27 := ⟨q1.below hk (by omega), q2.below hk hs1⟩
          refine ⟨q0, ?_⟩
          clear c0 c1 c2 f0 f1 f2 hY1 q5 q6 hO hyB hyO hyb
          obtain ⟨c0, c1, c2⟩ := y6.three
          have f0 := y6.free 0
          have f1 := y6.free 1
          have f2 := y6.free 2
          refine wpAnyD_one (i := 7) (by kernel_rfl) rfl (by kernel_rfl) ?_
          go_simp
          obtain ⟨Y2, hY2, z6, hyb, hys, hyB, hyO⟩ := put3 y6 (.int .i64 an) (.int .i64 ad) (.slice oa rs.length oc) hr6
          rw [hY2]
          have z5 := hyB y5 (Ne.symm hn56)
          have zO := hyO yO (by decide)
          have hk := hk.trans hyb
          have q0 : Blk Y2 w.heap.size #[.int .i64 n, .int .i64 d, .slice va l.length vcap] 24 ∧ Blk Y2 (w.heap.size + 1) #[.int .i64 an, .int .i64 ad, .slice ua rs.length ucap] 27 := ⟨q1.below hk (by omega), q2.below hk hs1⟩
          refine ⟨q0, ?_⟩
          clear c0 c1 c2 f0 f1 f2 hY2 y5 y6 yO hyB hyO hyb
          refine wpAnyD_done (by kernel_rfl) ?_ _
          go_wp2_with fail
          go_meet
          exact ⟨r5, r6, oa, oc, rfl, rfl, hr5, hr6, z5, z6, zO, hk⟩
        · go_simp
          have q5 := Blk.new X12 #[.int .i64 0, .int .i64 0, .slice none 0 0] 30
          have hr5 := hk.size
          have hbj : Below X12.heap.size X12 (X12.alloc (.cells #[.int .i64 0, .int .i64 0, .slice none 0 0] 30)) := (Below.refl _ X12).alloc (Nat.le_refl _) _
          obtain ⟨X15, hX⟩ : ∃ X, X12.alloc (.cells #[.int .i64 0, .int .i64 0, .slice none 0 0] 30) = X := ⟨_, rfl⟩
          obtain ⟨r5, hr⟩ : ∃ r, X12.heap.size = r := ⟨_, rfl⟩
          rw [hX] at q5 hbj ⊢
          rw [hr] at q5 hr5 ⊢
          clear hX hr
          have q6 := q6.below hbj q6.lt
          have hk := hk.trans (hbj.mono hk.size)
          have q0 : Blk X15 w.heap.size #[.int .i64 n, .int .i64 d, .slice va l.length vcap] 24 ∧ Blk X15 (w.heap.size + 1) #[.int .i64 an, .int .i64 ad, .slice ua rs.length ucap] 27 := ⟨q1.below hk (by omega), q2.below hk hs1⟩
          refine ⟨q0, ?_⟩
          clear hbj
          refine wpAnyD_one (i := 3) (by kernel_rfl) rfl (by kernel_rfl) ?_
          go_simp
          refine (old_any W1.heap.size an ad rs (.slice ua rs.length ucap) X15 (Recs.below hu1 hk (Nat.le_refl _) (Nat.le_refl _)) hk.size hll).mono ?_
          rintro e X16 ⟨oa, oc, rfl, hO, hbj⟩
          have hO := hO.mono hk.size
          have q5 := q5.below hbj q5.lt
          have q6 := q6.below hbj q6.lt
          have hk := hk.trans (hbj.mono hk.size)
          have q0 : Blk X16 w.heap.size #[.int .i64 n, .int .i64 d, .slice va l.length vcap] 24 ∧ Blk X16 (w.heap.size + 1) #[.int .i64 an, .int .i64 ad, .slice ua rs.length ucap] 27 := ⟨q1.below hk (by omega), q2.below hk hs1⟩
          refine ⟨q0, ?_⟩
          clear hbj
          obtain ⟨c0, c1, c2⟩ := q5.three
          have f0 := q5.free 0
          have f1 := q5.free 1
          have f2 := q5.free 2
          refine wpAnyD_one (i := 6) (by kernel_rfl) rfl (by kernel_rfl) ?_
          go_simp
          obtain ⟨Y1, hY1, y5, hyb, hys, hyB, hyO⟩ := put3 q5 (.int .i64 n) (.int .i64 d) (.slice va l.length vcap) hr5
          rw [hY1]
          have hn56 : r6 ≠ r5 := by
            rintro rfl
            unfold Blk at q5 q6
            rw [q5] at q6
            injection q6 with h1
            injection h1 with _ h2 _
            exact absurd h2 (by decide)
          have y6 := hyB q6 hn56
          have yO := hyO hO (by decide)
          have hk := hk.trans hyb
          have q0 : Blk Y1 w.heap.size #[.int .i64 n, .int .i64 d, .slice va l.length vcap] 24 ∧ Blk Y1 (w.heap.size + 1) #[.int .i64 an, .int .i64 ad, .slice ua rs.length ucap] 27 := ⟨q1.below hk (by omega), q2.below hk hs1⟩
          refine ⟨q0, ?_⟩
          clear c0 c1 c2 f0 f1 f2 hY1 q5 q6 hO hyB hyO hyb
          obtain ⟨c0, c1, c2⟩ := y6.three
          have f0 := y6.free 0
          have f1 := y6.free 1
          have f2 := y6.free 2
          refine wpAnyD_one (i := 7) (by kernel_rfl) rfl (by kernel_rfl) ?_
          go_simp
          obtain ⟨Y2, hY2, z6, hyb, hys, hyB, hyO⟩ := put3 y6 (.int .i64 an) (.int .i64 ad) (.slice oa rs.length oc) hr6
          rw [hY2]
          have z5 := hyB y5 (Ne.symm hn56)
          have zO := hyO yO (by decide)
          have hk := hk.trans hyb
          have q0 : Blk Y2 w.heap.size #[.int .i64 n, .int .i64 d, .slice va l.length vcap] 24 ∧ Blk Y2 (w.heap.size + 1) #[.int .i64 an, .int .i64 ad, .slice ua rs.length ucap] 27 := ⟨q1.below hk (by omega), q2.below hk hs1⟩
          refine ⟨q0, ?_⟩
          clear c0 c1 c2 f0 f1 f2 hY2 y5 y6 yO hyB hyO hyb
          refine wpAnyD_done (by kernel_rfl) ?_ _
          go_wp2_with fail
          go_meet
          exact ⟨r5, r6, oa, oc, rfl, rfl, hr5, hr6, z5, z6, zO, hk⟩
    · go_simp
      have q5 := Blk.new X0 #[.int .i64 0, .int .i64 0, .slice none 0 0] 30
      have hr5 := hk.size
      have hbj : Below X0.heap.size X0 (X0.alloc (.cells #[.int .i64 0, .int .i64 0, .slice none 0 0] 30)) := (Below.refl _ X0).alloc (Nat.le_refl _) _
      obtain ⟨X17, hX⟩ : ∃ X, X0.alloc (.cells #[.int .i64 0, .int .i64 0, .slice none 0 0] 30) = X := ⟨_, rfl⟩
      obtain ⟨r5, hr⟩ : ∃ r, X0.heap.size = r := ⟨_, rfl⟩
      rw [hX] at q5 hbj ⊢
      rw [hr] at q5 hr5 ⊢
      clear hX hr
      have hk := hk.trans (hbj.mono hk.size)
      have q0 : Blk X17 w.heap.size #[.int .i64 n, .int .i64 d, .slice va l.length vcap] 24 ∧ Blk X17 (w.heap.size + 1) #[.int .i64 an, .int .i64 ad, .slice ua rs.length ucap] 27 := ⟨q1.below hk (by omega), q2.below hk hs1⟩
      refine ⟨q0, ?_⟩
      clear hbj
      refine wpAnyD_two (i := 1) (j := 5) (by kernel_rfl) rfl rfl (by kernel_rfl) (by kernel_rfl) ?_ ?_
      · go_simp
        refine (plainF_any n d va l.length vcap X17).mono ?_
        rintro e X18 ⟨rfl, hbj⟩
        have q5 := q5.below hbj q5.lt
        have hk := hk.trans (hbj.mono hk.size)
        have q0 : Blk X18 w.heap.size #[.int .i64 n, .int .i64 d, .slice va l.length vcap] 24 ∧ Blk X18 (w.heap.size + 1) #[.int .i64 an, .int .i64 ad, .slice ua rs.length ucap] 27 := ⟨q1.below hk (by omega), q2.below hk hs1⟩
        refine ⟨q0, ?_⟩
        clear hbj
        refine wpAnyD_two (i := 3) (j := 5) (by kernel_rfl) rfl rfl (by kernel_rfl) (by kernel_rfl) ?_ ?_
        · go_simp
          refine (old_any W1.heap.size an ad rs (.slice ua rs.length ucap) X18 (Recs.below hu1 hk (Nat.le_refl _) (Nat.le_refl _)) hk.size hll).mono ?_
          rintro e X19 ⟨oa, oc, rfl, hO, hbj⟩
          have hO := hO.mono hk.size
          have q5 := q5.below hbj q5.lt
          have hk := hk.trans (hbj.mono hk.size)
          have q0 : Blk X19 w.heap.size #[.int .i64 n, .int .i64 d, .slice va l.length vcap] 24 ∧ Blk X19 (w.heap.size + 1) #[.int .i64 an, .int .i64 ad, .slice ua rs.length ucap] 27 := ⟨q1.below hk (by omega), q2.below hk hs1⟩
          refine ⟨q0, ?_⟩
          clear hbj
          refine wpAnyD_one (i := 5) (by kernel_rfl) rfl (by kernel_rfl) ?_
          go_simp
          have q6 := Blk.new X19 #[.int .i64 0, .int .i64 0, .slice none 0 0] 36
          have hr6 := hk.size
          have hbj : Below X19.heap.size X19 (X19.alloc (.cells #[.int .i64 0, .int .i64 0, .slice none 0 0] 36)) := (Below.refl _ X19).alloc (Nat.le_refl _) _
          obtain ⟨X20, hX⟩ : ∃ X, X19.alloc (.cells #[.int .i64 0, .int .i64 0, .slice none 0 0] 36) = X := ⟨_, rfl⟩
          obtain ⟨r6, hr⟩ : ∃ r, X19.heap.size = r := ⟨_, rfl⟩
          rw [hX] at q6 hbj ⊢
          rw [hr] at q6 hr6 ⊢
          clear hX hr
          have q5 := q5.below hbj q5.lt
          have hO := hO.old hbj
          have hk := hk.trans (hbj.mono hk.size)
          have q0 : Blk X20 w.heap.size #[.int .i64 n, .int .i64 d, .slice va l.length vcap] 24 ∧ Blk X20 (w.heap.size + 1) #[.int .i64 an, .int .i64 ad, .slice ua rs.length ucap] 27 := ⟨q1.below hk (by omega), q2.below hk hs1⟩
          refine ⟨q0, ?_⟩
          clear hbj
          obtain ⟨c0, c1, c2⟩ := q5.three
          have f0 := q5.free 0
          have f1 := q5.free 1
          have f2 := q5.free 2
          refine wpAnyD_one (i := 6) (by kernel_rfl) rfl (by kernel_rfl) ?_
          go_simp
          obtain ⟨Y1, hY1, y5, hyb, hys, hyB, hyO⟩ := put3 q5 (.int .i64 n) (.int .i64 d) (.slice va l.length vcap) hr5
          rw [hY1]
          have hn56 : r6 ≠ r5 := by
            rintro rfl
            unfold Blk at q5 q6
            rw [q5] at q6
            injection q6 with h1
            injection h1 with _ h2 _
            exact absurd h2 (by decide)
          have y6 := hyB q6 hn56
          have yO := hyO hO (by decide)
          have hk := hk.trans hyb
          have q0 : Blk Y1 w.heap.size #[.int .i64 n, .int .i64 d, .slice va l.length vcap] 24 ∧ Blk Y1 (w.heap.size + 1) #[.int .i64 an, .int .i64 ad, .slice ua rs.length ucap] 27 := ⟨q1.below hk (by omega), q2.below hk hs1⟩
          refine ⟨q0, ?_⟩
          clear c0 c1 c2 f0 f1 f2 hY1 q5 q6 hO hyB hyO hyb
          obtain ⟨c0, c1, c2⟩ := y6.three
          have f0 := y6.free 0
          have f1 := y6.free 1
          have f2 := y6.free 2
          refine wpAnyD_one (i := 7) (by kernel_rfl) rfl (by kernel_rfl) ?_
          go_simp
          obtain ⟨Y2, hY2, z6, hyb, hys, hyB, hyO⟩ := put3 y6 (.int .i64 an) (.int .i64 ad) (.slice oa rs.length oc) hr6
          rw [hY2]
          have z5 := hyB y5 (Ne.symm hn56)
          have zO := hyO yO (by decide)
          have hk := hk.trans hyb
          have q0 : Blk Y2 w.heap.size #[.int .i64 n, .int .i64 d, .slice va l.length vcap] 24 ∧ Blk Y2 (w.heap.size + 1) #[.int .i64 an, .int .i64 ad, .slice ua rs.length ucap] 27 := ⟨q1.below hk (by omega), q2.below hk hs1⟩
          refine ⟨q0, ?_⟩
          clear c0 c1 c2 f0 f1 f2 hY2 y5 y6 yO hyB hyO hyb
          refine wpAnyD_done (by kernel_rfl) ?_ _
          go_wp2_with fail
          go_meet
          exact ⟨r5, r6, oa, oc, rfl, rfl, hr5, hr6, z5, z6, zO, hk⟩
        · go_simp
          have q6 := Blk.new X18 #[.int .i64 0, .int .i64 0, .slice none 0 0] 36
          have hr6 := hk.size
          have hbj : Below X18.heap.size X18 (X18.alloc (.cells #[.int .i64 0, .int .i64 0, .slice none 0 0] 36)) := (Below.refl _ X18).alloc (Nat.le_refl _) _
          obtain ⟨X21, hX⟩ : ∃ X, X18.alloc (.cells #[.int .i64 0, .int .i64 0, .slice none 0 0] 36) = X := ⟨_, rfl⟩
          obtain ⟨r6, hr⟩ : ∃ r, X18.heap.size = r := ⟨_, rfl⟩
          rw [hX] at q6 hbj ⊢
          rw [hr] at q6 hr6 ⊢
          clear hX hr
          have q5 := q5.below hbj q5.lt
          have hk := hk.trans (hbj.mono hk.size)
          have q0 : Blk X21 w.heap.size #[.int .i64 n, .int .i64 d, .slice va l.length vcap] 24 ∧ Blk X21 (w.heap.size + 1) #[.int .i64 an, .int .i64 ad, .slice ua rs.length ucap] 27 := ⟨q1.below hk (by omega), q2.below hk hs1⟩
          refine ⟨q0, ?_⟩
          clear hbj
          refine wpAnyD_one (i := 3) (by kernel_rfl) rfl (by kernel_rfl) ?_
          go_simp
          refine (old_any W1.heap.size an ad rs (.slice ua rs.length ucap) X21 (Recs.below hu1 hk (Nat.le_refl _) (Nat.le_refl _)) hk.size hll).mono ?_
          rintro e X22 ⟨oa, oc, rfl, hO, hbj⟩
          have hO := hO.mono hk.size
          have q5 := q5.below hbj q5.lt
          have q6 := q6.below hbj q6.lt
          have hk := hk.trans (hbj.mono hk.size)
          have q0 : Blk X22 w.heap.size #[.int .i64 n, .int .i64 d, .slice va l.length vcap] 24 ∧ Blk X22 (w.heap.size + 1) #[.int .i64 an, .int .i64 ad, .slice ua rs.length ucap] 27 := ⟨q1.below hk (by omega), q2.below hk hs1⟩
          refine ⟨q0, ?_⟩
          clear hbj
          obtain ⟨c0, c1, c2⟩ := q5.three
          have f0 := q5.free 0
          have f1 := q5.free 1
          have f2 := q5.free 2
          refine wpAnyD_one (i := 6) (by kernel_rfl) rfl (by kernel_rfl) ?_
          go_simp
          obtain ⟨Y1, hY1, y5, hyb, hys, hyB, hyO⟩ := put3 q5 (.int .i64 n) (.int .i64 d) (.slice va l.length vcap) hr5
          rw [hY1]
          have hn56 : r6 ≠ r5 := by
            rintro rfl
            unfold Blk at q5 q6
            rw [q5] at q6
            injection q6 with h1
            injection h1 with _ h2 _
            exact absurd h2 (by decide)
          have y6 := hyB q6 hn56
          have yO := hyO hO (by decide)
          have hk := hk.trans hyb
          have q0 : Blk Y1 w.heap.size #[.int .i64 n, .int .i64 d, .slice va l.length vcap] 24 ∧ Blk Y1 (w.heap.size + 1) #[.int .i64 an, .int .i64 ad, .slice ua rs.length ucap] 27 := ⟨q1.below hk (by omega), q2.below hk hs1⟩
          refine ⟨q0, ?_⟩
          clear c0 c1 c2 f0 f1 f2 hY1 q5 q6 hO hyB hyO hyb
          obtain ⟨c0, c1, c2⟩ := y6.three
          have f0 := y6.free 0
          have f1 := y6.free 1
          have f2 := y6.free 2
          refine wpAnyD_one (i := 7) (by kernel_rfl) rfl (by kernel_rfl) ?_
          go_simp
          obtain ⟨Y2, hY2, z6, hyb, hys, hyB, hyO⟩ := put3 y6 (.int .i64 an) (.int .i64 ad) (.slice oa rs.length oc) hr6
          rw [hY2]
          have z5 := hyB y5 (Ne.symm hn56)
          have zO := hyO yO (by decide)
          have hk := hk.trans hyb
          have q0 : Blk Y2 w.heap.size #[.int .i64 n, .int .i64 d, .slice va l.length vcap] 24 ∧ Blk Y2 (w.heap.size + 1) #[.int .i64 an, .int .i64 ad, .slice ua rs.length ucap] 27 := ⟨q1.below hk (by omega), q2.below hk hs1⟩
          refine ⟨q0, ?_⟩
          clear c0 c1 c2 f0 f1 f2 hY2 y5 y6 yO hyB hyO hyb
          refine wpAnyD_done (by kernel_rfl) ?_ _
          go_wp2_with fail
          go_meet
          exact ⟨r5, r6, oa, oc, rfl, rfl, hr5, hr6, z5, z6, zO, hk⟩
      · go_simp
        have q6 := Blk.new X17 #[.int .i64 0, .int .i64 0, .slice none 0 0] 36
        have hr6 := hk.size
        have hbj : Below X17.heap.size X17 (X17.alloc (.cells #[.int .i64 0, .int .i64 0, .slice none 0 0] 36)) := (Below.refl _ X17).alloc (Nat.le_refl _) _
        obtain ⟨X23, hX⟩ : ∃ X, X17.alloc (.cells #[.int .i64 0, .int .i64 0, .slice none 0 0] 36) = X := ⟨_, rfl⟩
        obtain ⟨r6, hr⟩ : ∃ r, X17.heap.size = r := ⟨_, rfl⟩
        rw [hX] at q6 hbj ⊢
        rw [hr] at q6 hr6 ⊢
        clear hX hr
        have q5 := q5.below hbj q5.lt
        have hk := hk.trans (hbj.mono hk.size)
        have q0 : Blk X23 w.heap.size #[.int .i64 n, .int .i64 d, .slice va l.length vcap] 24 ∧ Blk X23 (w.heap.size + 1) #[.int .i64 an, .int .i64 ad, .slice ua rs.length ucap] 27 := ⟨q1.below hk (by omega), q2.below hk hs1⟩
        refine ⟨q0, ?_⟩
        clear hbj
        refine wpAnyD_one (i := 1) (by kernel_rfl) rfl (by kernel_rfl) ?_
        go_simp
        refine (plainF_any n d va l.length vcap X23).mono ?_
        rintro e X24 ⟨rfl, hbj⟩
        have q5 := q5.below hbj q5.lt
        have q6 := q6.below hbj q6.lt
        have hk := hk.trans (hbj.mono hk.size)
        have q0 : Blk X24 w.heap.size #[.int .i64 n, .int .i64 d, .slice va l.length vcap] 24 ∧ Blk X24 (w.heap.size + 1) #[.int .i64 an, .int .i64 ad, .slice ua rs.length ucap] 27 := ⟨q1.below hk (by omega), q2.below hk hs1⟩
        refine ⟨q0, ?_⟩
        clear hbj
        refine wpAnyD_one (i := 3) (by kernel_rfl) rfl (by kernel_rfl) ?_
        go_simp
        refine (old_any W1.heap.size an ad rs (.slice ua rs.length ucap) X24 (Recs.below hu1 hk (Nat.le_refl _) (Nat.le_refl _)) hk.size hll).mono ?_
        rintro e X25 ⟨oa, oc, rfl, hO, hbj⟩
        have hO := hO.mono hk.size
        have q5 := q5.below hbj q5.lt
        have q6 := q6.below hbj q6.lt
        have hk := hk.trans (hbj.mono hk.size)
        have q0 : Blk X25 w.heap.size #[.int .i64 n, .int .i64 d, .slice va l.length vcap] 24 ∧ Blk X25 (w.heap.size + 1) #[.int .i64 an, .int .i64 ad, .slice ua rs.length ucap] 27 := ⟨q1.below hk (by omega), q2.below hk hs1⟩
        refine ⟨q0, ?_⟩
        clear hbj
        obtain ⟨c0, c1, c2⟩ := q5.three
        have f0 := q5.free 0
        have f1 := q5.free 1
        have f2 := q5.free 2
        refine wpAnyD_one (i := 6) (by kernel_rfl) rfl (by kernel_rfl) ?_
        go_simp
        obtain ⟨Y1, hY1, y5, hyb, hys, hyB, hyO⟩ := put3 q5 (.int .i64 n) (.int .i64 d) (.slice va l.length vcap) hr5
        rw [hY1]
        have hn56 : r6 ≠ r5 := by
          rintro rfl
          unfold Blk at q5 q6
          rw [q5] at q6
          injection q6 with h1
          injection h1 with _ h2 _
          exact absurd h2 (by decide)
        have y6 := hyB q6 hn56
        have yO := hyO hO (by decide)
        have hk := hk.trans hyb
        have q0 : Blk Y1 w.heap.size #[.int .i64 n, .int .i64 d, .slice va l.length vcap] 24 ∧ Blk Y1 (w.heap.size + 1) #[.int .i64 an, .int .i64 ad, .slice ua rs.length ucap] 27 := ⟨q1.below hk (by omega), q2.below hk hs1⟩
        refine ⟨q0, ?_⟩
        clear c0 c1 c2 f0 f1 f2 hY1 q5 q6 hO hyB hyO hyb
        obtain ⟨c0, c1, c2⟩ := y6.three
        have f0 := y6.free 0
        have f1 := y6.free 1
        have f2 := y6.free 2
        refine wpAnyD_one (i := 7) (by kernel_rfl) rfl (by kernel_rfl) ?_
        go_simp
        obtain ⟨Y2, hY2, z6, hyb, hys, hyB, hyO⟩ := put3 y6 (.int .i64 an) (.int .i64 ad) (.slice oa rs.length oc) hr6
        rw [hY2]
        have z5 := hyB y5 (Ne.symm hn56)
        have zO := hyO yO (by decide)
        have hk := hk.trans hyb
        have q0 : Blk Y2 w.heap.size #[.int .i64 n, .int .i64 d, .slice va l.length vcap] 24 ∧ Blk Y2 (w.heap.size + 1) #[.int .i64 an, .int .i64 ad, .slice ua rs.length ucap] 27 := ⟨q1.below hk (by omega), q2.below hk hs1⟩
        refine ⟨q0, ?_⟩
        clear c0 c1 c2 f0 f1 f2 hY2 y5 y6 yO hyB hyO hyb
        refine wpAnyD_done (by kernel_rfl) ?_ _
        go_wp2_with fail
        go_meet
        exact ⟨r5, r6, oa, oc, rfl, rfl, hr5, hr6, z5, z6, zO, hk⟩
    · go_simp
      have q6 := Blk.new X0 #[.int .i64 0, .int .i64 0, .slice none 0 0] 36
      have hr6 := hk.size
      have hbj : Below X0.heap.size X0 (X0.alloc (.cells #[.int .i64 0, .int .i64 0, .slice none 0 0] 36)) := (Below.refl _ X0).alloc (Nat.le_refl _) _
      obtain ⟨X26, hX⟩ : ∃ X, X0.alloc (.cells #[.int .i64 0, .int .i64 0, .slice none 0 0] 36) = X := ⟨_, rfl⟩
      obtain ⟨r6, hr⟩ : ∃ r, X0.heap.size = r := ⟨_, rfl⟩
      rw [hX] at q6 hbj ⊢
      rw [hr] at q6 hr6 ⊢
      clear hX hr
      have hk := hk.trans (hbj.mono hk.size)
      have q0 : Blk X26 w.heap.size #[.int .i64 n, .int .i64 d, .slice va l.length vcap] 24 ∧ Blk X26 (w.heap.size + 1) #[.int .i64 an, .int .i64 ad, .slice ua rs.length ucap] 27 := ⟨q1.below hk (by omega), q2.below hk hs1⟩
      refine ⟨q0, ?_⟩
      clear hbj
      refine wpAnyD_two (i := 1) (j := 4) (by kernel_rfl) rfl rfl (by kernel_rfl) (by kernel_rfl) ?_ ?_
      · go_simp
        refine (plainF_any n d va l.length vcap X26).mono ?_
        rintro e X27 ⟨rfl, hbj⟩
        have q6 := q6.below hbj q6.lt
        have hk := hk.trans (hbj.mono hk.size)
        have q0 : Blk X27 w.heap.size #[.int .i64 n, .int .i64 d, .slice va l.length vcap] 24 ∧ Blk X27 (w.heap.size + 1) #[.int .i64 an, .int .i64 ad, .slice ua rs.length ucap] 27 := ⟨q1.below hk (by omega), q2.below hk hs1⟩
        refine ⟨q0, ?_⟩
        clear hbj
        refine wpAnyD_two (i := 3) (j := 4) (by kernel_rfl) rfl rfl (by kernel_rfl) (by kernel_rfl) ?_ ?_
        · go_simp
          refine (old_any W1.heap.size an ad rs (.slice ua rs.length ucap) X27 (Recs.below hu1 hk (Nat.le_refl _) (Nat.le_refl _)) hk.size hll).mono ?_
          rintro e X28 ⟨oa, oc, rfl, hO, hbj⟩
          have hO := hO.mono hk.size
          have q6 := q6.below hbj q6.lt
          have hk := hk.trans (hbj.mono hk.size)
          have q0 : Blk X28 w.heap.size #[.int .i64 n, .int .i64 d, .slice va l.length vcap] 24 ∧ Blk X28 (w.heap.size + 1) #[.int .i64 an, .int .i64 ad, .slice ua rs.length ucap] 27 := ⟨q1.below hk (by omega), q2.below hk hs1⟩
          refine ⟨q0, ?_⟩
          clear hbj
          refine wpAnyD_one (i := 4) (by kernel_rfl) rfl (by kernel_rfl) ?_
          go_simp
          have q5 := Blk.new X28 #[.int .i64 0, .int .i64 0, .slice none 0 0] 30
          have hr5 := hk.size
          have hbj : Below X28.heap.size X28 (X28.alloc (.cells #[.int .i64 0, .int .i64 0, .slice none 0 0] 30)) := (Below.refl _ X28).alloc (Nat.le_refl _) _
          obtain ⟨X29, hX⟩ : ∃ X, X28.alloc (.cells #[.int .i64 0, .int .i64 0, .slice none 0 0] 30) = X := ⟨_, rfl⟩
          obtain ⟨r5, hr⟩ : ∃ r, X28.heap.size = r := ⟨_, rfl⟩
          rw [hX] at q5 hbj ⊢
          rw [hr] at q5 hr5 ⊢
          clear hX hr
          have q6 := q6.below hbj q6.lt
          have hO := hO.old hbj
          have hk := hk.trans (hbj.mono hk.size)
          have q0 : Blk X29 w.heap.size #[.int .i64 n, .int .i64 d, .slice va l.length vcap] 24 ∧ Blk X29 (w.heap.size + 1) #[.int .i64 an, .int .i64 ad, .slice ua rs.length ucap] 27 := ⟨q1.below hk (by omega), q2.below hk hs1⟩
          refine ⟨q0, ?_⟩
          clear hbj
          obtain ⟨c0, c1, c2⟩ := q5.three
          have f0 := q5.free 0
          have f1 := q5.free 1
          have f2 := q5.free 2
          refine wpAnyD_one (i := 6) (by kernel_rfl) rfl (by kernel_rfl) ?_
          go_simp
          obtain ⟨Y1, hY1, y5, hyb, hys, hyB, hyO⟩ := put3 q5 (.int .i64 n) (.int .i64 d) (.slice va l.length vcap) hr5
          rw [hY1]
          have hn56 : r6 ≠ r5 := by
            rintro rfl
            unfold Blk at q5 q6
            rw [q5] at q6
            injection q6 with h1
            injection h1 with _ h2 _
            exact absurd h2 (by decide)
          have y6 := hyB q6 hn56
          have yO := hyO hO (by decide)
          have hk := hk.trans hyb
          have q0 : Blk Y1 w.heap.size #[.int .i64 n, .int .i64 d, .slice va l.length vcap] 24 ∧ Blk Y1 (w.heap.size + 1) #[.int .i64 an, .int .i64 ad, .slice ua rs.length ucap] 27 := ⟨q1.below hk (by omega), q2.below hk hs1⟩
          refine ⟨q0, ?_⟩
          clear c0 c1 c2 f0 f1 f2 hY1 q5 q6 hO hyB hyO hyb
          obtain ⟨c0, c1, c2⟩ := y6.three
          have f0 := y6.free 0
          have f1 := y6.free 1
          have f2 := y6.free 2
          refine wpAnyD_one (i := 7) (by kernel_rfl) rfl (by kernel_rfl) ?_
          go_simp
          obtain ⟨Y2, hY2, z6, hyb, hys, hyB, hyO⟩ := put3 y6 (.int .i64 an) (.int .i64 ad) (.slice oa rs.length oc) hr6
          rw [hY2]
          have z5 := hyB y5 (Ne.symm hn56)
          have zO := hyO yO (by decide)
          have hk := hk.trans hyb
          have q0 : Blk Y2 w.heap.size #[.int .i64 n, .int .i64 d, .slice va l.length vcap] 24 ∧ Blk Y2 (w.heap.size + 1) #[.int .i64 an, .int .i64 ad, .slice ua rs.length ucap] 27 := ⟨q1.below hk (by omega), q2.below hk hs1⟩
          refine ⟨q0, ?_⟩
          clear c0 c1 c2 f0 f1 f2 hY2 y5 y6 yO hyB hyO hyb
          refine wpAnyD_done (by kernel_rfl) ?_ _
          go_wp2_with fail
          go_meet
          exact ⟨r5, r6, oa, oc, rfl, rfl, hr5, hr6, z5, z6, zO, hk⟩
        · go_simp
          have q5 := Blk.new X27 #[.int .i64 0, .int .i64 0, .slice none 0 0] 30
          have hr5 := hk.size
          have hbj : Below X27.heap.size X27 (X27.alloc (.cells #[.int .i64 0, .int .i64 0, .slice none 0 0] 30)) := (Below.refl _ X27).alloc (Nat.le_refl _) _
          obtain ⟨X30, hX⟩ : ∃ X, X27.alloc (.cells #[.int .i64 0, .int .i64 0, .slice none 0 0] 30) = X := ⟨_, rfl⟩
          obtain ⟨r5, hr⟩ : ∃ r, X27.heap.size = r := ⟨_, rfl⟩
          rw [hX] at q5 hbj ⊢
          rw [hr] at q5 hr5 ⊢
          clear hX hr
          have q6 := q6.below hbj q6.lt
          have hk := hk.trans (hbj.mono hk.size)
          have q0 : Blk X30 w.heap.size #[.int .i64 n, .int .i64 d, .slice va l.length vcap] 24 ∧ Blk X30 (w.heap.size + 1) #[.int .i64 an, .int .i64 ad, .slice ua rs.length ucap] 27 := ⟨q1.below hk (by omega), q2.below hk hs1⟩
          refine ⟨q0, ?_⟩
          clear hbj
          refine wpAnyD_one (i := 3) (by kernel_rfl) rfl (by kernel_rfl) ?_
          go_simp
          refine (old_any W1.heap.size an ad rs (.slice ua rs.length ucap) X30 (Recs.below hu1 hk (Nat.le_refl _) (Nat.le_refl _)) hk.size hll).mono ?_
          rintro e X31 ⟨oa, oc, rfl, hO, hbj⟩
          have hO := hO.mono hk.size
          have q5 := q5.below hbj q5.lt
          have q6 := q6.below hbj q6.lt
          have hk := hk.trans (hbj.mono hk.size)
          have q0 : Blk X31 w.heap.size #[.int .i64 n, .int .i64 d, .slice va l.length vcap] 24 ∧ Blk X31 (w.heap.size + 1) #[.int .i64 an, .int .i64 ad, .slice ua rs.length ucap] 27 := ⟨q1.below hk (by omega), q2.below hk hs1⟩
          refine ⟨q0, ?_⟩
          clear hbj
          obtain ⟨c0, c1, c2⟩ := q5.three
          have f0 := q5.free 0
          have f1 := q5.free 1
          have f2 := q5.free 2
          refine wpAnyD_one (i := 6) (by kernel_rfl) rfl (by kernel_rfl) ?_
          go_simp
          obtain ⟨Y1, hY1, y5, hyb, hys, hyB, hyO⟩ := put3 q5 (.int .i64 n) (.int .i64 d) (.slice va l.length vcap) hr5
          rw [hY1]
          have hn56 : r6 ≠ r5 := by
            rintro rfl
            unfold Blk at q5 q6
            rw [q5] at q6
            injection q6 with h1
            injection h1 with _ h2 _
            exact absurd h2 (by decide)
          have y6 := hyB q6 hn56
          have yO := hyO hO (by decide)
          have hk := hk.trans hyb
          have q0 : Blk Y1 w.heap.size #[.int .i64 n, .int .i64 d, .slice va l.length vcap] 24 ∧ Blk Y1 (w.heap.size + 1) #[.int .i64 an, .int .i64 ad, .slice ua rs.length ucap] 27 := ⟨q1.below hk (by omega), q2.below hk hs1⟩
          refine ⟨q0, ?_⟩
          clear c0 c1 c2 f0 f1 f2 hY1 q5 q6 hO hyB hyO hyb
          obtain ⟨c0, c1, c2⟩ := y6.three
          have f0 := y6.free 0
          have f1 := y6.free 1
          have f2 := y6.free 2
          refine wpAnyD_one (i := 7) (by kernel_rfl) rfl (by kernel_rfl) ?_
          go_simp
          obtain ⟨Y2, hY2, z6, hyb, hys, hyB, hyO⟩ := put3 y6 (.int .i64 an) (.int .i64 ad) (.slice oa rs.length oc) hr6
          rw [hY2]
          have z5 := hyB y5 (Ne.symm hn56)
          have zO := hyO yO (by decide)
          have hk := hk.trans hyb
          have q0 : Blk Y2 w.heap.size #[.int .i64 n, .int .i64 d, .slice va l.length vcap] 24 ∧ Blk Y2 (w.heap.size + 1) #[.int .i64 an, .int .i64 ad, .slice ua rs.length ucap] 27 := ⟨q1.below hk (by omega), q2.below hk hs1⟩
          refine ⟨q0, ?_⟩
          clear c0 c1 c2 f0 f1 f2 hY2 y5 y6 yO hyB hyO hyb
          refine wpAnyD_done (by kernel_rfl) ?_ _
          go_wp2_with fail
          go_meet
          exact ⟨r5, r6, oa, oc, rfl, rfl, hr5, hr6, z5, z6, zO, hk⟩
      · go_simp
        have q5 := Blk.new X26 #[.int .i64 0, .int .i64 0, .slice none 0 0] 30
        have hr5 := hk.size
        have hbj : Below X26.heap.size X26 (X26.alloc (.cells #[.int .i64 0, .int .i64 0, .slice none 0 0] 30)) := (Below.refl _ X26).alloc (Nat.le_refl _) _
        obtain ⟨X32, hX⟩ : ∃ X, X26.alloc (.cells #[.int .i64 0, .int .i64 0, .slice none 0 0] 30) = X := ⟨_, rfl⟩
        obtain ⟨r5, hr⟩ : ∃ r, X26.heap.size = r := ⟨_, rfl⟩
        rw [hX] at q5 hbj ⊢
        rw [hr] at q5 hr5 ⊢
        clear hX hr
        have q6 := q6.below hbj q6.lt
        have hk := hk.trans (hbj.mono hk.size)
        have q0 : Blk X32 w.heap.size #[.int .i64 n, .int .i64 d, .slice va l.length vcap] 24 ∧ Blk X32 (w.heap.size + 1) #[.int .i64 an, .int .i64 ad, .slice ua rs.length ucap] 27 := ⟨q1.below hk (by omega), q2.below hk hs1⟩
        refine ⟨q0, ?_⟩
        clear hbj
        refine wpAnyD_one (i := 1) (by kernel_rfl) rfl (by kernel_rfl) ?_
        go_simp
        refine (plainF_any n d va l.length vcap X32).mono ?_
        rintro e X33 ⟨rfl, hbj⟩
        have q5 := q5.below hbj q5.lt
        have q6 := q6.below hbj q6.lt
        have hk := hk.trans (hbj.mono hk.size)
        have q0 : Blk X33 w.heap.size #[.int .i64 n, .int .i64 d, .slice va l.length vcap] 24 ∧ Blk X33 (w.heap.size + 1) #[.int .i64 an, .int .i64 ad, .slice ua rs.length ucap] 27 := ⟨q1.below hk (by omega), q2.below hk hs1⟩
        refine ⟨q0, ?_⟩
        clear hbj
        refine wpAnyD_one (i := 3) (by kernel_rfl) rfl (by kernel_rfl) ?_
        go_simp
        refine (old_any W1.heap.size an ad rs (.slice ua rs.length ucap) X33 (Recs.below hu1 hk (Nat.le_refl _) (Nat.le_refl _)) hk.size hll).mono ?_
        rintro e X34 ⟨oa, oc, rfl, hO, hbj⟩
        have hO := hO.mono hk.size
        have q5 := q5.below hbj q5.lt
        have q6 := q6.below hbj q6.lt
        have hk := hk.trans (hbj.mono hk.size)
        have q0 : Blk X34 w.heap.size #[.int .i64 n, .int .i64 d, .slice va l.length vcap] 24 ∧ Blk X34 (w.heap.size + 1) #[.int .i64 an, .int .i64 ad, .slice ua rs.length ucap] 27 := ⟨q1.below hk (by omega), q2.below hk hs1⟩
        refine ⟨q0, ?_⟩
        clear hbj
        obtain ⟨c0, c1, c2⟩ := q5.three
        have f0 := q5.free 0
        have f1 := q5.free 1
        have f2 := q5.free 2
        refine wpAnyD_one (i := 6) (by kernel_rfl) rfl (by kernel_rfl) ?_
        go_simp
        obtain ⟨Y1, hY1, y5, hyb, hys, hyB, hyO⟩ := put3 q5 (.int .i64 n) (.int .i64 d) (.slice va l.length vcap) hr5
        rw [hY1]
        have hn56 : r6 ≠ r5 := by
          rintro rfl
          unfold Blk at q5 q6
          rw [q5] at q6
          injection q6 with h1
          injection h1 with _ h2 _
          exact absurd h2 (by decide)
        have y6 := hyB q6 hn56
        have yO := hyO hO (by decide)
        have hk := hk.trans hyb
        have q0 : Blk Y1 w.heap.size #[.int .i64 n, .int .i64 d, .slice va l.length vcap] 24 ∧ Blk Y1 (w.heap.size + 1) #[.int .i64 an, .int .i64 ad, .slice ua rs.length ucap] 27 := ⟨q1.below hk (by omega), q2.below hk hs1⟩
        refine ⟨q0, ?_⟩
        clear c0 c1 c2 f0 f1 f2 hY1 q5 q6 hO hyB hyO hyb
        obtain ⟨c0, c1, c2⟩ := y6.three
        have f0 := y6.free 0
        have f1 := y6.free 1
        have f2 := y6.free 2
        refine wpAnyD_one (i := 7) (by kernel_rfl) rfl (by kernel_rfl) ?_
        go_simp
        obtain ⟨Y2, hY2, z6, hyb, hys, hyB, hyO⟩ := put3 y6 (.int .i64 an) (.int .i64 ad) (.slice oa rs.length oc) hr6
        rw [hY2]
        have z5 := hyB y5 (Ne.symm hn56)
        have zO := hyO yO (by decide)
        have hk := hk.trans hyb
        have q0 : Blk Y2 w.heap.size #[.int .i64 n, .int .i64 d, .slice va l.length vcap] 24 ∧ Blk Y2 (w.heap.size + 1) #[.int .i64 an, .int .i64 ad, .slice ua rs.length ucap] 27 := ⟨q1.below hk (by omega), q2.below hk hs1⟩
        refine ⟨q0, ?_⟩
        clear c0 c1 c2 f0 f1 f2 hY2 y5 y6 yO hyB hyO hyb
        refine wpAnyD_done (by kernel_rfl) ?_ _
        go_wp2_with fail
        go_meet
        exact ⟨r5, r6, oa, oc, rfl, rfl, hr5, hr6, z5, z6, zO, hk⟩
  case rest =>
    obtain ⟨X0, rfl⟩ : ∃ X : World, X = wc := ⟨_, rfl⟩
    obtain ⟨r5, r6, oa, oc, rfl, rfl, hr5, hr6, q5, q6, hO, hk⟩ := hcut
    have p1 := q1.below hk (by omega)
    have p2 := q2.below hk hs1
    have hl1 : w.heap.size < X0.heap.size := p1.lt
    have hl2 : w.heap.size + 1 < X0.heap.size := p2.lt
    have hl5 : r5 < X0.heap.size := q5.lt
    have hl6 : r6 < X0.heap.size := q6.lt
    have hv0 : Ords X0.heap.size X0 (.slice va l.length vcap) l := Recs.below hv1 hk (Nat.le_refl _) hk.size
    have hu0 : Rets X0.heap.size X0 (.slice ua rs.length ucap) rs := Recs.below hu1 hk (Nat.le_refl _) hk.size
    have ho0 := hO.rets
    have hT0 := hT1.up hk hk.size
    have hbX : Below w.heap.size w X0 := hb1.trans (hk.mono hb1.size)
    clear q1 q2 hO hv1 hu1 hT1 hk hb1 hr5 hr6
    obtain ⟨d0, d1, d2⟩ := p1.three
    obtain ⟨tm, te, ht⟩ : ∃ a b, totalS ⟨n, d, l⟩ = (a, b) := ⟨_, _, rfl⟩
    have hc := total_any X0.heap.size n d l _ X0 hv0 (Nat.le_refl _)
    rw [ht] at hc
    dsimp only at hc
    go_wp2_with fail
    refine hc.mono ?_
    rintro e A1 ⟨rfl, hb⟩
    have h1 : Below X0.heap.size X0 A1 := hb
    clear hc hb d0 d1 d2
    obtain ⟨d0, d1, d2⟩ := (q5.below h1 hl5).three
    have hc := rtotal_any X0.heap.size n d l _ A1 (Recs.below hv0 h1 (Nat.le_refl _) (Nat.le_refl _)) h1.size
    rw [ht] at hc
    dsimp only at hc
    go_wp2_with fail
    refine hc.mono ?_
    rintro e A2 ⟨rfl, hb⟩
    have h2 : Below X0.heap.size X0 A2 := h1.trans (hb.mono h1.size)
    clear hc hb d0 d1 d2 h1 ht
    obtain ⟨d0, d1, d2⟩ := (p1.below h2 hl1).three
    obtain ⟨ws, we, hw⟩ : ∃ a b, writeS ⟨n, d, l⟩ = (a, b) := ⟨_, _, rfl⟩
    have hc := write_any X0.heap.size n d l _ A2 (Recs.below hv0 h2 (Nat.le_refl _) (Nat.le_refl _)) h2.size (hT0.up h2 h2.size)
    rw [hw] at hc
    dsimp only at hc
    go_wp2_with fail
    refine hc.mono ?_
    rintro e A3 ⟨rfl, hb⟩
    have h3 : Below X0.heap.size X0 A3 := h2.trans (hb.mono h2.size)
    clear hc hb d0 d1 d2 h2
    obtain ⟨d0, d1, d2⟩ := (q5.below h3 hl5).three
    have hc := rwrite_any X0.heap.size n d l _ A3 (Recs.below hv0 h3 (Nat.le_refl _) (Nat.le_refl _)) h3.size
    rw [hw] at hc
    dsimp only at hc
    go_wp2_with fail
    refine hc.mono ?_
    rintro e A4 ⟨rfl, hb⟩
    have h4 : Below X0.heap.size X0 A4 := h3.trans (hb.mono h3.size)
    clear hc hb d0 d1 d2 h3 hw
    obtain ⟨bs, hbs⟩ : ∃ b : ByteArray, ⟨ws.toArray⟩ = b := ⟨_, rfl⟩
    rw [hbs]
    clear hbs
    obtain ⟨d0, d1, d2⟩ := (p2.below h4 hl2).three
    obtain ⟨av, ae, ha⟩ : ∃ a b, writeAS ⟨an, ad, rs⟩ = (a, b) := ⟨_, _, rfl⟩
    have hc := writeA_any X0.heap.size an ad rs _ A4 (Recs.below hu0 h4 (Nat.le_refl _) (Nat.le_refl _)) h4.size (hT0.up h4 h4.size)
    rw [ha] at hc
    dsimp only at hc
    go_wp2_with fail
    refine hc.mono ?_
    rintro e A5 ⟨rfl, hb⟩
    have h5 : Below X0.heap.size X0 A5 := h4.trans (hb.mono h4.size)
    clear hc hb d0 d1 d2 h4
    obtain ⟨d0, d1, d2⟩ := (q6.below h5 hl6).three
    have hc := rwriteA_any X0.heap.size an ad rs _ A5 (Recs.below ho0 h5 (Nat.le_refl _) (Nat.le_refl _)) h5.size
    rw [ha] at hc
    dsimp only at hc
    go_wp2_with fail
    refine hc.mono ?_
    rintro e A6 ⟨rfl, hb⟩
    have h6 : Below X0.heap.size X0 A6 := h5.trans (hb.mono h5.size)
    clear hc hb d0 d1 d2 h5 ha
    obtain ⟨ba, hba⟩ : ∃ b : ByteArray, ⟨av.toArray⟩ = b := ⟨_, rfl⟩
    rw [hba]
    clear hba
    obtain ⟨d0, d1, d2⟩ := (p1.below h6 hl1).three
    obtain ⟨e0, e1, e2⟩ := (p2.below h6 hl2).three
    obtain ⟨ms, me, hm⟩ : ∃ a b, matchS ⟨n, d, l⟩ ⟨an, ad, rs⟩ = (a, b) := ⟨_, _, rfl⟩
    have hc := match_any X0.heap.size n d l _ an ad rs _ A6 (Recs.below hv0 h6 (Nat.le_refl _) (Nat.le_refl _)) (Recs.below hu0 h6 (Nat.le_refl _) (Nat.le_refl _)) h6.size
    rw [hm] at hc
    dsimp only at hc
    go_wp2_with fail
    refine hc.mono ?_
    rintro e A7 ⟨x, rfl, hx, hb⟩
    have h7 : Below X0.heap.size X0 A7 := h6.trans (hb.mono h6.size)
    clear hc hb d0 d1 d2 e0 e1 e2 h6
    obtain ⟨d0, d1, d2⟩ := (q5.below h7 hl5).three
    obtain ⟨e0, e1, e2⟩ := (q6.below h7 hl6).three
    have hc := rmatch_any X0.heap.size n d l _ an ad rs _ A7 (Recs.below hv0 h7 (Nat.le_refl _) (Nat.le_refl _)) (Recs.below ho0 h7 (Nat.le_refl _) (Nat.le_refl _)) h7.size
    rw [hm] at hc
    dsimp only at hc
    go_wp2_with fail
    refine hc.mono ?_
    rintro e A8 ⟨y, rfl, hy, hb⟩
    have h8 : Below X0.heap.size X0 A8 := h7.trans (hb.mono h7.size)
    have hx : Ords A7.heap.size A8 x ms := hx.below hb (Nat.le_refl _) (Nat.le_refl _)
    have hx : Ords A8.heap.size A8 x ms := Recs.below hx (Below.refl A8.heap.size A8) hb.size hb.size
    clear hc hb d0 d1 d2 e0 e1 e2 hm
    go_upto_region 10 with fail
    refine region_plain (fun W => (Blk W w.heap.size #[.int .i64 n, .int .i64 d, .slice va l.length vcap] 24 ∧ Blk W (w.heap.size + 1) #[.int .i64 an, .int .i64 ad, .slice ua rs.length ucap] 27) ∧ (Blk W r5 #[.int .i64 n, .int .i64 d, .slice va l.length vcap] 30 ∧ Blk W r6 #[.int .i64 an, .int .i64 ad, .slice oa rs.length oc] 36)) [] (by kernel_rfl) ?_
    have q0 : (Blk A8.drew w.heap.size #[.int .i64 n, .int .i64 d, .slice va l.length vcap] 24 ∧ Blk A8.drew (w.heap.size + 1) #[.int .i64 an, .int .i64 ad, .slice ua rs.length ucap] 27) ∧ (Blk A8.drew r5 #[.int .i64 n, .int .i64 d, .slice va l.length vcap] 30 ∧ Blk A8.drew r6 #[.int .i64 an, .int .i64 ad, .slice oa rs.length oc] 36) := ⟨⟨p1.below h8.drew hl1, p2.below h8.drew hl2⟩, q5.below h8.drew hl5, q6.below h8.drew hl6⟩
    refine wpAnyD_take (i := 0) (v := .int .i64 tm) rfl (by kernel_rfl) (by kernel_rfl) (by kernel_rfl) (by kernel_rfl) (by kernel_rfl) (fun _ _ _ h => h) (.inl ⟨by kernel_rfl, fun W' hS => by go_simp⟩) q0 ?_
    refine wpAnyD_take (i := 1) (v := .int .i64 tm) rfl (by kernel_rfl) (by kernel_rfl) (by kernel_rfl) (by kernel_rfl) (by kernel_rfl) (fun _ _ _ h => h) (.inl ⟨by kernel_rfl, fun W' hS => by go_simp⟩) q0 ?_
    refine wpAnyD_take (i := 2) (v := .bool true) rfl (by kernel_rfl) (by kernel_rfl) (by kernel_rfl) (by kernel_rfl) (by kernel_rfl) (fun _ _ _ h => h) (.inl ⟨by kernel_rfl, fun W' hS => by go_simp⟩) q0 ?_
    refine wpAnyD_take (i := 3) (v := .bool true) rfl (by kernel_rfl) (by kernel_rfl) (by kernel_rfl) (by kernel_rfl) (by kernel_rfl) (fun _ _ _ h => h) (.inl ⟨by kernel_rfl, fun W' hS => by go_simp⟩) q0 ?_
    refine wpAnyD_take (i := 4) (v := .int .i64 te) rfl (by kernel_rfl) (by kernel_rfl) (by kernel_rfl) (by kernel_rfl) (by kernel_rfl) (fun _ _ _ h => h) (.inl ⟨by kernel_rfl, fun W' hS => by go_simp⟩) q0 ?_
    refine wpAnyD_take (i := 5) (v := .int .i64 te) rfl (by kernel_rfl) (by kernel_rfl) (by kernel_rfl) (by kernel_rfl) (by kernel_rfl) (fun _ _ _ h => h) (.inl ⟨by kernel_rfl, fun W' hS => by go_simp⟩) q0 ?_
    refine wpAnyD_take (i := 6) (v := .bool true) rfl (by kernel_rfl) (by kernel_rfl) (by kernel_rfl) (by kernel_rfl) (by kernel_rfl) (fun _ _ _ h => h) (.inl ⟨by kernel_rfl, fun W' hS => by go_simp⟩) q0 ?_
    refine wpAnyD_take (i := 7) (v := .bool true) rfl (by kernel_rfl) (by kernel_rfl) (by kernel_rfl) (by kernel_rfl) (by kernel_rfl) (fun _ _ _ h => h) (.inl ⟨by kernel_rfl, fun W' hS => by go_simp⟩) q0 ?_
    refine wpAnyD_take (i := 8) (v := .bool true) rfl (by kernel_rfl) (by kernel_rfl) (by kernel_rfl) (by kernel_rfl) (by kernel_rfl) (fun _ _ _ h => h) (.inl ⟨by kernel_rfl, fun W' hS => by go_simp⟩) q0 ?_
    refine wpAnyD_take (i := 9) (v := .string bs) rfl (by kernel_rfl) (by kernel_rfl) (by kernel_rfl) (by kernel_rfl) (by kernel_rfl) (fun _ _ _ h => h) (.inl ⟨by kernel_rfl, fun W' hS => by go_simp⟩) q0 ?_
    refine wpAnyD_take (i := 10) (v := .string bs) rfl (by kernel_rfl) (by kernel_rfl) (by kernel_rfl) (by kernel_rfl) (by kernel_rfl) (fun _ _ _ h => h) (.inl ⟨by kernel_rfl, fun W' hS => by go_simp⟩) q0 ?_
    refine wpAnyD_take (i := 11) (v := .bool true) rfl (by kernel_rfl) (by kernel_rfl) (by kernel_rfl) (by kernel_rfl) (by kernel_rfl) (fun _ _ _ h => h) (.inl ⟨by kernel_rfl, fun W' hS => by go_simp⟩) q0 ?_
    refine wpAnyD_take (i := 12) (v := .bool true) rfl (by kernel_rfl) (by kernel_rfl) (by kernel_rfl) (by kernel_rfl) (by kernel_rfl) (fun _ _ _ h => h) (.inl ⟨by kernel_rfl, fun W' hS => by go_simp⟩) q0 ?_
    refine wpAnyD_take (i := 13) (v := .bool true) rfl (by kernel_rfl) (by kernel_rfl) (by kernel_rfl) (by kernel_rfl) (by kernel_rfl) (fun _ _ _ h => h) (.inl ⟨by kernel_rfl, fun W' hS => by go_simp⟩) q0 ?_
    refine wpAnyD_take (i := 14) (v := .int .i64 we) rfl (by kernel_rfl) (by kernel_rfl) (by kernel_rfl) (by kernel_rfl) (by kernel_rfl) (fun _ _ _ h => h) (.inl ⟨by kernel_rfl, fun W' hS => by go_simp⟩) q0 ?_
    refine wpAnyD_take (i := 15) (v := .int .i64 we) rfl (by kernel_rfl) (by kernel_rfl) (by kernel_rfl) (by kernel_rfl) (by kernel_rfl) (fun _ _ _ h => h) (.inl ⟨by kernel_rfl, fun W' hS => by go_simp⟩) q0 ?_
    refine wpAnyD_take (i := 16) (v := .bool true) rfl (by kernel_rfl) (by kernel_rfl) (by kernel_rfl) (by kernel_rfl) (by kernel_rfl) (fun _ _ _ h => h) (.inl ⟨by kernel_rfl, fun W' hS => by go_simp⟩) q0 ?_
    refine wpAnyD_take (i := 17) (v := .bool true) rfl (by kernel_rfl) (by kernel_rfl) (by kernel_rfl) (by kernel_rfl) (by kernel_rfl) (fun _ _ _ h => h) (.inl ⟨by kernel_rfl, fun W' hS => by go_simp⟩) q0 ?_
    refine wpAnyD_take (i := 18) (v := .bool true) rfl (by kernel_rfl) (by kernel_rfl) (by kernel_rfl) (by kernel_rfl) (by kernel_rfl) (fun _ _ _ h => h) (.inl ⟨by kernel_rfl, fun W' hS => by go_simp⟩) q0 ?_
    refine wpAnyD_take (i := 19) (v := .string ba) rfl (by kernel_rfl) (by kernel_rfl) (by kernel_rfl) (by kernel_rfl) (by kernel_rfl) (fun _ _ _ h => h) (.inl ⟨by kernel_rfl, fun W' hS => by go_simp⟩) q0 ?_
    refine wpAnyD_take (i := 20) (v := .string ba) rfl (by kernel_rfl) (by kernel_rfl) (by kernel_rfl) (by kernel_rfl) (by kernel_rfl) (fun _ _ _ h => h) (.inl ⟨by kernel_rfl, fun W' hS => by go_simp⟩) q0 ?_
    refine wpAnyD_take (i := 21) (v := .bool true) rfl (by kernel_rfl) (by kernel_rfl) (by kernel_rfl) (by kernel_rfl) (by kernel_rfl) (fun _ _ _ h => h) (.inl ⟨by kernel_rfl, fun W' hS => by go_simp⟩) q0 ?_
    refine wpAnyD_take (i := 22) (v := .bool true) rfl (by kernel_rfl) (by kernel_rfl) (by kernel_rfl) (by kernel_rfl) (by kernel_rfl) (fun _ _ _ h => h) (.inl ⟨by kernel_rfl, fun W' hS => by go_simp⟩) q0 ?_
    refine wpAnyD_take (i := 23) (v := .bool true) rfl (by kernel_rfl) (by kernel_rfl) (by kernel_rfl) (by kernel_rfl) (by kernel_rfl) (fun _ _ _ h => h) (.inl ⟨by kernel_rfl, fun W' hS => by go_simp⟩) q0 ?_
    refine wpAnyD_take (i := 24) (v := .int .i64 ae) rfl (by kernel_rfl) (by kernel_rfl) (by kernel_rfl) (by kernel_rfl) (by kernel_rfl) (fun _ _ _ h => h) (.inl ⟨by kernel_rfl, fun W' hS => by go_simp⟩) q0 ?_
    refine wpAnyD_take (i := 25) (v := .int .i64 ae) rfl (by kernel_rfl) (by kernel_rfl) (by kernel_rfl) (by kernel_rfl) (by kernel_rfl) (fun _ _ _ h => h) (.inl ⟨by kernel_rfl, fun W' hS => by go_simp⟩) q0 ?_
    refine wpAnyD_take (i := 26) (v := .bool true) rfl (by kernel_rfl) (by kernel_rfl) (by kernel_rfl) (by kernel_rfl) (by kernel_rfl) (fun _ _ _ h => h) (.inl ⟨by kernel_rfl, fun W' hS => by go_simp⟩) q0 ?_
    refine wpAnyD_take (i := 27) (v := .bool true) rfl (by kernel_rfl) (by kernel_rfl) (by kernel_rfl) (by kernel_rfl) (by kernel_rfl) (fun _ _ _ h => h) (.inl ⟨by kernel_rfl, fun W' hS => by go_simp⟩) q0 ?_
    refine wpAnyD_take (i := 28) (v := .bool true) rfl (by kernel_rfl) (by kernel_rfl) (by kernel_rfl) (by kernel_rfl) (by kernel_rfl) (fun _ _ _ h => h) (.inl ⟨by kernel_rfl, fun W' hS => by go_simp⟩) q0 ?_
    refine wpAnyD_take (i := 29) (v := x) rfl (by kernel_rfl) (by kernel_rfl) (by kernel_rfl) (by kernel_rfl) (by kernel_rfl) (fun _ _ _ h => h) (.inl ⟨by kernel_rfl, fun W' hS => by go_simp⟩) q0 ?_
    refine wpAnyD_take (i := 30) (v := y) rfl (by kernel_rfl) (by kernel_rfl) (by kernel_rfl) (by kernel_rfl) (by kernel_rfl) (fun _ _ _ h => h) (.inl ⟨by kernel_rfl, fun W' hS => by go_simp⟩) q0 ?_
    refine wpAnyD_one (i := 31) (by kernel_rfl) rfl (by kernel_rfl) ?_
    go_simp
    refine (sameO_any A8.heap.size x y ms A8.drew hx hy).mono ?_
    rintro e A9 ⟨rfl, nn, hA9⟩
    have h9 : Below X0.heap.size X0 A9 := by rw [hA9]; exact below_drewN2 h8.drew nn
    clear hA9
    have q0 : (Blk A9 w.heap.size #[.int .i64 n, .int .i64 d, .slice va l.length vcap] 24 ∧ Blk A9 (w.heap.size + 1) #[.int .i64 an, .int .i64 ad, .slice ua rs.length ucap] 27) ∧ (Blk A9 r5 #[.int .i64 n, .int .i64 d, .slice va l.length vcap] 30 ∧ Blk A9 r6 #[.int .i64 an, .int .i64 ad, .slice oa rs.length oc] 36) := ⟨⟨p1.below h9 hl1, p2.below h9 hl2⟩, q5.below h9 hl5, q6.below h9 hl6⟩
    refine ⟨q0, ?_⟩
    refine wpAnyD_take (i := 32) (v := .bool true) rfl (by kernel_rfl) (by kernel_rfl) (by kernel_rfl) (by kernel_rfl) (by kernel_rfl) (fun _ _ _ h => h) (.inl ⟨by kernel_rfl, fun W' hS => by go_simp⟩) q0 ?_
    refine wpAnyD_take (i := 33) (v := .bool true) rfl (by kernel_rfl) (by kernel_rfl) (by kernel_rfl) (by kernel_rfl) (by kernel_rfl) (fun _ _ _ h => h) (.inl ⟨by kernel_rfl, fun W' hS => by go_simp⟩) q0 ?_
    refine wpAnyD_take (i := 34) (v := .int .i64 me) rfl (by kernel_rfl) (by kernel_rfl) (by kernel_rfl) (by kernel_rfl) (by kernel_rfl) (fun _ _ _ h => h) (.inl ⟨by kernel_rfl, fun W' hS => by go_simp⟩) q0 ?_
    refine wpAnyD_take (i := 35) (v := .int .i64 me) rfl (by kernel_rfl) (by kernel_rfl) (by kernel_rfl) (by kernel_rfl) (by kernel_rfl) (fun _ _ _ h => h) (.inl ⟨by kernel_rfl, fun W' hS => by go_simp⟩) q0 ?_
    refine wpAnyD_take (i := 36) (v := .bool true) rfl (by kernel_rfl) (by kernel_rfl) (by kernel_rfl) (by kernel_rfl) (by kernel_rfl) (fun _ _ _ h => h) (.inl ⟨by kernel_rfl, fun W' hS => by go_simp⟩) q0 ?_
    refine wpAnyD_take (i := 37) (v := .bool true) rfl (by kernel_rfl) (by kernel_rfl) (by kernel_rfl) (by kernel_rfl) (by kernel_rfl) (fun _ _ _ h => h) (.inl ⟨by kernel_rfl, fun W' hS => by go_simp⟩) q0 ?_
    refine wpAnyD_take (i := 38) (v := .bool true) rfl (by kernel_rfl) (by kernel_rfl) (by kernel_rfl) (by kernel_rfl) (by kernel_rfl) (fun _ _ _ h => h) (.inl ⟨by kernel_rfl, fun W' hS => by go_simp⟩) q0 ?_
    refine wpAnyD_take (i := 39) (v := .agg #[.int .i64 n, .int .i64 d, .slice va l.length vcap]) rfl (by kernel_rfl) (by kernel_rfl) (by kernel_rfl) (by kernel_rfl) (by kernel_rfl) (fun _ _ _ h => h) (.inl ⟨by kernel_rfl, fun W' hS => by obtain ⟨c0, c1, c2⟩ := hS.1.1.three; go_simp⟩) q0 ?_
    refine wpAnyD_take (i := 41) (v := .agg #[.int .i64 n, .int .i64 d, .slice va l.length vcap]) rfl (by kernel_rfl) (by kernel_rfl) (by kernel_rfl) (by kernel_rfl) (by kernel_rfl) (fun _ _ _ h => h) (.inl ⟨by kernel_rfl, fun W' hS => by obtain ⟨c0, c1, c2⟩ := hS.2.1.three; go_simp⟩) q0 ?_
    refine wpAnyD_one (i := 40) (by kernel_rfl) rfl (by kernel_rfl) ?_
    go_simp
    refine (valid_any X0.heap.size _ n d l A9 (Recs.below hv0 h9 (Nat.le_refl _) (Nat.le_refl _)) h9.size).mono ?_
    rintro e A10 ⟨rfl, hb⟩
    have h10 : Below X0.heap.size X0 A10 := h9.trans (hb.mono h9.size)
    have q0 : (Blk A10 w.heap.size #[.int .i64 n, .int .i64 d, .slice va l.length vcap] 24 ∧ Blk A10 (w.heap.size + 1) #[.int .i64 an, .int .i64 ad, .slice ua rs.length ucap] 27) ∧ (Blk A10 r5 #[.int .i64 n, .int .i64 d, .slice va l.length vcap] 30 ∧ Blk A10 r6 #[.int .i64 an, .int .i64 ad, .slice oa rs.length oc] 36) := ⟨⟨p1.below h10 hl1, p2.below h10 hl2⟩, q5.below h10 hl5, q6.below h10 hl6⟩
    refine ⟨q0, ?_⟩
    refine wpAnyD_one (i := 42) (by kernel_rfl) rfl (by kernel_rfl) ?_
    go_simp
    refine (rvalid_any X0.heap.size n d _ l A10 (Recs.below hv0 h10 (Nat.le_refl _) (Nat.le_refl _)) h10.size).mono ?_
    rintro e A11 ⟨rfl, hb⟩
    have h11 : Below X0.heap.size X0 A11 := h10.trans (hb.mono h10.size)
    have q0 : (Blk A11 w.heap.size #[.int .i64 n, .int .i64 d, .slice va l.length vcap] 24 ∧ Blk A11 (w.heap.size + 1) #[.int .i64 an, .int .i64 ad, .slice ua rs.length ucap] 27) ∧ (Blk A11 r5 #[.int .i64 n, .int .i64 d, .slice va l.length vcap] 30 ∧ Blk A11 r6 #[.int .i64 an, .int .i64 ad, .slice oa rs.length oc] 36) := ⟨⟨p1.below h11 hl1, p2.below h11 hl2⟩, q5.below h11 hl5, q6.below h11 hl6⟩
    refine ⟨q0, ?_⟩
    obtain ⟨vb, hvb⟩ : ∃ b, okF ⟨n, d, l⟩ = b := ⟨_, rfl⟩
    rw [hvb]
    refine wpAnyD_take (i := 43) (v := .bool true) rfl (by kernel_rfl) (by kernel_rfl) (by kernel_rfl) (by kernel_rfl) (by kernel_rfl) (fun _ _ _ h => h) (.inl ⟨by kernel_rfl, fun W' hS => by go_simp⟩) q0 ?_
    refine wpAnyD_take (i := 44) (v := .bool true) rfl (by kernel_rfl) (by kernel_rfl) (by kernel_rfl) (by kernel_rfl) (by kernel_rfl) (fun _ _ _ h => h) (.inl ⟨by kernel_rfl, fun W' hS => by go_simp⟩) q0 ?_
    refine wpAnyD_take (i := 45) (v := .bool true) rfl (by kernel_rfl) (by kernel_rfl) (by kernel_rfl) (by kernel_rfl) (by kernel_rfl) (fun _ _ _ h => h) (.inl ⟨by kernel_rfl, fun W' hS => by go_simp⟩) q0 ?_
    refine wpAnyD_take (i := 46) (v := .agg #[.int .i64 an, .int .i64 ad, .slice ua rs.length ucap]) rfl (by kernel_rfl) (by kernel_rfl) (by kernel_rfl) (by kernel_rfl) (by kernel_rfl) (fun _ _ _ h => h) (.inl ⟨by kernel_rfl, fun W' hS => by obtain ⟨c0, c1, c2⟩ := hS.1.2.three; go_simp⟩) q0 ?_
    refine wpAnyD_take (i := 48) (v := .agg #[.int .i64 an, .int .i64 ad, .slice oa rs.length oc]) rfl (by kernel_rfl) (by kernel_rfl) (by kernel_rfl) (by kernel_rfl) (by kernel_rfl) (fun _ _ _ h => h) (.inl ⟨by kernel_rfl, fun W' hS => by obtain ⟨c0, c1, c2⟩ := hS.2.2.three; go_simp⟩) q0 ?_
    refine wpAnyD_one (i := 47) (by kernel_rfl) rfl (by kernel_rfl) ?_
    go_simp
    refine (right_any X0.heap.size _ an ad rs A11 (Recs.below hu0 h11 (Nat.le_refl _) (Nat.le_refl _)) h11.size).mono ?_
    rintro e A12 ⟨rfl, hb⟩
    have h12 : Below X0.heap.size X0 A12 := h11.trans (hb.mono h11.size)
    have q0 : (Blk A12 w.heap.size #[.int .i64 n, .int .i64 d, .slice va l.length vcap] 24 ∧ Blk A12 (w.heap.size + 1) #[.int .i64 an, .int .i64 ad, .slice ua rs.length ucap] 27) ∧ (Blk A12 r5 #[.int .i64 n, .int .i64 d, .slice va l.length vcap] 30 ∧ Blk A12 r6 #[.int .i64 an, .int .i64 ad, .slice oa rs.length oc] 36) := ⟨⟨p1.below h12 hl1, p2.below h12 hl2⟩, q5.below h12 hl5, q6.below h12 hl6⟩
    refine ⟨q0, ?_⟩
    refine wpAnyD_one (i := 49) (by kernel_rfl) rfl (by kernel_rfl) ?_
    go_simp
    refine (rright_any X0.heap.size an ad _ rs A12 (Recs.below ho0 h12 (Nat.le_refl _) (Nat.le_refl _)) h12.size).mono ?_
    rintro e A13 ⟨rfl, hb⟩
    have h13 : Below X0.heap.size X0 A13 := h12.trans (hb.mono h12.size)
    have q0 : (Blk A13 w.heap.size #[.int .i64 n, .int .i64 d, .slice va l.length vcap] 24 ∧ Blk A13 (w.heap.size + 1) #[.int .i64 an, .int .i64 ad, .slice ua rs.length ucap] 27) ∧ (Blk A13 r5 #[.int .i64 n, .int .i64 d, .slice va l.length vcap] 30 ∧ Blk A13 r6 #[.int .i64 an, .int .i64 ad, .slice oa rs.length oc] 36) := ⟨⟨p1.below h13 hl1, p2.below h13 hl2⟩, q5.below h13 hl5, q6.below h13 hl6⟩
    refine ⟨q0, ?_⟩
    obtain ⟨rb, hrb⟩ : ∃ b, okA ⟨an, ad, rs⟩ = b := ⟨_, rfl⟩
    rw [hrb]
    refine wpAnyD_take (i := 50) (v := .bool true) rfl (by kernel_rfl) (by kernel_rfl) (by kernel_rfl) (by kernel_rfl) (by kernel_rfl) (fun _ _ _ h => h) (.inl ⟨by kernel_rfl, fun W' hS => by go_simp⟩) q0 ?_
    refine wpAnyD_take (i := 51) (v := .bool true) rfl (by kernel_rfl) (by kernel_rfl) (by kernel_rfl) (by kernel_rfl) (by kernel_rfl) (fun _ _ _ h => h) (.inl ⟨by kernel_rfl, fun W' hS => by go_simp⟩) q0 ?_
    refine wpAnyD_take (i := 52) (v := .bool true) rfl (by kernel_rfl) (by kernel_rfl) (by kernel_rfl) (by kernel_rfl) (by kernel_rfl) (fun _ _ _ h => h) (.inl ⟨by kernel_rfl, fun W' hS => by go_simp⟩) q0 ?_
    refine wpAnyD_done (by kernel_rfl) ?_ _
    go_wp2_with fail
    go_ret
    exact ⟨rfl, hbX.trans (h13.mono hbX.size)⟩
end Go.Proofs.YtaccaebdmndkiaaDoor
