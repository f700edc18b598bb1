/- Contracts and plain laws, several texts in one (GSmp, GSmp2, GMid, GSmp01). No conditions beyond those stated. -/
import Derived.Test.YthooiobhlbnaoaaGreatGaVal
import Derived.Test.YthooiobhlbnaoaaGreatGaIns
import Derived.Test.YthooiobhlbnaoaaGreatORC
import Derived.Test.YthooiobhlbnaoaaGreatGaHol
import Derived.Test.YthooiobhlbnaoaaGreatGaFr
namespace Go.Proofs.YthooiobhlbnaoaaGreat
open Go.RowKit
set_option linter.unusedVariables false

abbrev wholeX (kd i : Int) : Vv := ⟨kd, false, .slice none 0 0, false, .slice none 0 0, i⟩
def wholeV (kd i : Int) : Vq := ⟨kd, false, [], false, [], i⟩
theorem wholeX_is (K : Nat) (w : World) (kd i : Int) : VlX K w (wholeV kd i) (wholeX kd i) := ⟨rfl, rfl, rfl, rfl, Lm.nil K w, Lm.nil K w⟩
theorem isDay_no {kd : Int} (h : isDay kd = true) : (kd != 2) = true ∧ (kd != 3) = true ∧ (kd == 0) = false := by
  unfold isDay at h
  simp only [Bool.or_eq_true, beq_iff_eq] at h
  refine ⟨?_, ?_, ?_⟩ <;> simp <;> omega
set_option maxRecDepth 100000 in
set_option maxHeartbeats 1000000 in
theorem gbesideW_any (kd i n : Int) (f1 f2 : Bool) (a1 a2 : Option Addr) (n1 m1 n2 m2 : Nat) (w : World) (hk : isDay kd = true) (hi : -1048576 ≤ i ∧ i ≤ 1048576) (hn : -2 ≤ n ∧ n ≤ 2) :
    Calls Tryz.prog 66 #[(⟨kd, f1, .slice a1 n1 m1, f2, .slice a2 n2 m2, i⟩ : Vv).agg, .int .i64 n] w fun e w' => e = .returned (.tuple #[(wholeX kd (i + n)).agg, .bool true]) ∧ Below w.heap.size w w' := by
  obtain ⟨W1, hW1⟩ : ∃ W1, (w.alloc (.cells (⟨kd, f1, .slice a1 n1 m1, f2, .slice a2 n2 m2, i⟩ : Vv).cells 30)).alloc (.cells vv0.cells 30) = W1 := ⟨_, rfl⟩
  have b1 : Below w.heap.size w W1 := by rw [← hW1]; exact ((Below.refl _ _).alloc (Nat.le_refl _) _).alloc (by simp) _
  have q1 : Blk W1 w.heap.size (⟨kd, f1, .slice a1 n1 m1, f2, .slice a2 n2 m2, i⟩ : Vv).cells 30 := by rw [← hW1]; exact (Blk.new w _ _).alloc _
  have q2 : Blk W1 (w.heap.size + 1) vv0.cells 30 := by
    rw [← hW1]
    have := Blk.new (w.alloc (.cells (⟨kd, f1, .slice a1 n1 m1, f2, .slice a2 n2 m2, i⟩ : Vv).cells 30)) vv0.cells 30
    rwa [World.size_alloc] at this
  have s1 : W1.heap.size = w.heap.size + 2 := by rw [← hW1]; simp
  obtain ⟨B, hB⟩ : ∃ B, w.heap.size = B := ⟨_, rfl⟩
  have HB := Lib.hid hB
  have HW := Lib.hid hW1
  rw [hB] at b1 q1 q2 s1 ⊢
  dsimp only [Vv.cells, vv0] at HW
  obtain ⟨e2, e3, _⟩ := isDay_no hk
  obtain ⟨c0, c1, c2, c3, c4, c5⟩ := q1.six
  have hw1 : IntKind.i64.wrap (i + n) = i + n := IntWalk.i64_in _ (by omega)
  have h1c : ∀ u ∈ (wholeX kd (i + n)).cells, u.oneCell' = true := by simp [Value.oneCell']
  have HQ2 := Lib.hid q2
  have infoV : (Tryz.prog.info? 30).map (fun i => i.size) = some 6 := by kernel_rfl
  have HI := Lib.hid infoV
  clear hB hW1 hi hn hk q2 infoV
  go_enter Tryz.func66, Tryz.ntmps66
  go_upto_region 1 with fail
  simp only [HB.out]
  rw [HW.out]
  go_upto_region 2 with fail
  go_wp2_with (refine wpList_store_blk rfl 30 30 (.tmp 4) (.tmp 22) rfl (wholeX kd (i + n)).cells _ (B + 1) HQ2.out HI.out rfl h1c rfl rfl ?_; intro W2 t1 t2 t3 t4)
  refine bodyPost_ret (v := .tuple #[(wholeX kd (i + n)).agg, .bool true]) ?_ rfl ?_
  · obtain ⟨e0, e1, e2, e3, e4, e5⟩ := t1.six
    simp [results, Tryz.results66, go_sem, e0, e1, e2, e3, e4, e5]
  exact ⟨rfl, b1.trans (t2 _ (by omega))⟩
set_option maxRecDepth 100000 in
set_option maxHeartbeats 1000000 in
theorem gmiddleW_any (kd i j : Int) (f1 f2 g1 g2 : Bool) (a1 a2 a3 a4 : Option Addr) (n1 m1 n2 m2 n3 m3 n4 m4 : Nat) (w : World) (hk : isDay kd = true) (hi : -1048576 ≤ i ∧ i ≤ 1048576) (hj : -1048576 ≤ j ∧ j ≤ 1048576) (k2 : Int) :
    Calls Tryz.prog 67 #[(⟨kd, f1, .slice a1 n1 m1, f2, .slice a2 n2 m2, i⟩ : Vv).agg, (⟨k2, g1, .slice a3 n3 m3, g2, .slice a4 n4 m4, j⟩ : Vv).agg] w fun e w' => e = .returned (.tuple #[(wholeX kd ((i + j) / 2)).agg, .bool true]) ∧ Below w.heap.size w w' := by
  obtain ⟨W1, hW1⟩ : ∃ W1, ((w.alloc (.cells (⟨kd, f1, .slice a1 n1 m1, f2, .slice a2 n2 m2, i⟩ : Vv).cells 30)).alloc (.cells (⟨k2, g1, .slice a3 n3 m3, g2, .slice a4 n4 m4, j⟩ : Vv).cells 30)).alloc (.cells vv0.cells 30) = W1 := ⟨_, rfl⟩
  obtain ⟨b1, q1, q2, q3, s1⟩ := alloc3 w _ _ _ _ _ _ hW1
  obtain ⟨B, hB⟩ : ∃ B, w.heap.size = B := ⟨_, rfl⟩
  have HB := Lib.hid hB
  have HW := Lib.hid hW1
  rw [hB] at b1 q1 q2 q3 s1 ⊢
  dsimp only [Vv.cells, vv0] at HW
  obtain ⟨e2, e3, _⟩ := isDay_no hk
  obtain ⟨c0, c1, c2, c3, c4, c5⟩ := q1.six
  have u5 := q2.at (i := 5) (x := .int .i64 j) rfl
  obtain ⟨t, ht⟩ : ∃ t, i + j = t := ⟨_, rfl⟩
  have hw1 : IntKind.i64.wrap (i + j) = t := by rw [ht]; exact IntWalk.i64_in _ (by omega)
  rw [ht]
  have h1c : ∀ u ∈ (wholeX kd (t / 2)).cells, u.oneCell' = true := by simp [Value.oneCell']
  have HQ3 := Lib.hid q3
  have infoV : (Tryz.prog.info? 30).map (fun i => i.size) = some 6 := by kernel_rfl
  have HI := Lib.hid infoV
  clear hB hW1 hi hj hk q3 infoV ht
  go_enter Tryz.func67, Tryz.ntmps67
  go_upto_region 1 with fail
  simp only [HB.out, Nat.add_assoc, Nat.reduceAdd]
  rw [HW.out]
  go_upto_region 2 with fail
  go_wp2_with (refine wpList_store_blk rfl 30 30 (.tmp 4) (.tmp 24) rfl (wholeX kd (t / 2)).cells _ (B + 2) HQ3.out HI.out rfl h1c rfl rfl ?_; intro W2 t1 t2 t3 t4)
  refine bodyPost_ret (v := .tuple #[(wholeX kd (t / 2)).agg, .bool true]) ?_ rfl ?_
  · obtain ⟨e0, e1, e2, e3, e4, e5⟩ := t1.six
    simp [results, Tryz.results67, go_sem, e0, e1, e2, e3, e4, e5]
  exact ⟨rfl, b1.trans (t2 _ (by omega))⟩
end Go.Proofs.YthooiobhlbnaoaaGreat
namespace Go.Proofs.YthooiobhlbnaoaaGreat
open Go.RowKit
set_option linter.unusedVariables false

def smpI (s : Sc) (c : Nat) : Int := if c / 2 = 0 then (s.cuts[0]?.getD v0).i + (-1) else if c / 2 = s.cuts.length then (s.cuts[s.cuts.length - 1]?.getD v0).i + 1 else ((s.cuts[c / 2 - 1]?.getD v0).i + (s.cuts[c / 2]?.getD v0).i) / 2
/-- A value of a cell of a scale of whole values. -/
def smpW (s : Sc) (c : Nat) : Vq := if c % 2 = 1 then s.cuts[c / 2]?.getD v0 else wholeV s.kd (smpI s c)
theorem vv_range {g : Nat → Vv} {w : World} {b o k n : Nat} (hc : ∀ i, i < n → ∀ j, j < 6 → w.cell? ⟨b, o + (i * 6 + j), none⟩ = some ((g i).cell j)) (hk : k < n) : w.rangeAt b (o + k * 6) (g k).cells.toList := by
  intro j v hj
  have hj' : j < 6 := (List.getElem?_eq_some_iff.1 hj).1
  have := vv_cell_at (g k) hj'
  rw [hj, Option.getD_some] at this
  rw [this, Nat.add_assoc]; exact hc k hk j hj'
theorem infoValN : (Tryz.prog.info? 30).map (fun i => i.size) = some 6 := by kernel_rfl
theorem okB_day {s : Sc} (h : s.okB = true) (hd : isDay s.kd = true) : 1 ≤ s.cuts.length := by
  have := (isDay_no hd).2.2
  unfold Sc.okB at h
  rw [if_neg (by simpa using this)] at h
  simp only [Bool.and_eq_true, decide_eq_true_eq] at h
  omega

set_option maxRecDepth 100000 in
set_option maxHeartbeats 1000000 in
theorem gsampleW_any (K : Nat) (s : Sc) (y : Sv) (c : Nat) (w : World) (hs : ScX K w s y) (hK : K ≤ w.heap.size) (hgo : ∀ v ∈ s.cuts, v.good = true) (hok : s.okB = true) (hd : isDay s.kd = true) (hp : s.poss c = true) :
    Calls Tryz.prog 20 #[y.agg, .int .i64 c] w fun e w' => ∃ z : Vv, e = .returned (.tuple #[z.agg, .bool true]) ∧ VlX w'.heap.size w' (smpW s c) z ∧ Below w.heap.size w w' := by
  have hn32 := okB_len hok
  have hn1 := okB_day hok hd
  obtain ⟨e2, e3, e0⟩ := isDay_no hd
  have hcn : c < 2 * s.cuts.length + 1 := by
    unfold Sc.poss cntN at hp
    rw [if_neg (by simpa using e0)] at hp
    simp only [Bool.and_eq_true, decide_eq_true_eq] at hp
    omega
  obtain ⟨W1, hW1⟩ : ∃ W1, (w.alloc (.cells y.cells 48)).alloc (.cells vv0.cells 30) = W1 := ⟨_, rfl⟩
  have b1 : Below w.heap.size w W1 := by rw [← hW1]; exact ((Below.refl _ _).alloc (Nat.le_refl _) _).alloc (by simp) _
  have q1 : Blk W1 w.heap.size y.cells 48 := by rw [← hW1]; exact (Blk.new w _ _).alloc _
  have q2 : Blk W1 (w.heap.size + 1) vv0.cells 30 := by
    rw [← hW1]
    have := Blk.new (w.alloc (.cells y.cells 48)) vv0.cells 30
    rwa [World.size_alloc] at this
  have s1 : W1.heap.size = w.heap.size + 2 := by rw [← hW1]; simp
  obtain ⟨B, hB⟩ : ∃ B, w.heap.size = B := ⟨_, rfl⟩
  have HB := Lib.hid hB
  have HW := Lib.hid hW1
  rw [hB] at hK b1 q1 q2 s1 ⊢
  dsimp only [Vv.cells, vv0] at HW
  have hv := gvalid_any B s y W1 (hs.below b1 hK hK) (by omega) hgo (by omega)
  rw [hok] at hv
  have hpo : ∀ W, Below W1.heap.size W1 W → Calls Tryz.prog 64 #[.pointer (some ⟨B, 0, none⟩), .int .i64 (c : Int)] W fun e w' => e = .returned (.bool true) ∧ Below W.heap.size W w' := fun W hb => by
    have h3 := hb.size
    have h2 := (q1.below hb q1.lt)
    have := gposs_any B B 0 y.c.val s c W ((hs.cuts.below b1 hK hK).below hb (by omega) (Nat.le_refl _)) (by omega) (by omega) (by rw [Nat.zero_add, ← hs.kd]; exact h2.at rfl) (by rw [Nat.zero_add]; exact h2.at rfl) (by omega) (okB_cuts hok)
    rw [hp] at this
    exact this.mono (by rintro e w' ⟨rfl, h⟩; exact ⟨rfl, h⟩)
  have HPO := Lib.hid hpo
  have hcx := hs.cuts.below b1 hK hK
  have hkd := hs.kd
  obtain ⟨g, hrow, hgs⟩ := hcx
  obtain ⟨cb, co, ccap, hse, _, hcm, hcb, hccl⟩ := hrow.pos (by omega)
  obtain ⟨⟨yop, ynm, yk, yb3, ⟨y4, y4n, y4m⟩, yb5, ⟨y6, y6n, y6m⟩, yi7, ⟨y8, y8n, y8m⟩⟩, sk, ⟨ca, cn, cm⟩⟩ := y
  simp only [Sl.val, Value.slice.injEq] at hse
  obtain ⟨rfl, rfl, rfl⟩ := hse
  dsimp only at hkd
  subst hkd
  obtain ⟨m, hm⟩ : ∃ m, c / 2 = m := ⟨_, rfl⟩
  have hq2 : Int.tdiv (c : Int) 2 = (m : Int) := by rw [Int.tdiv_eq_ediv_of_nonneg (by omega)]; omega
  have hall : ∀ j, j < s.cuts.length → (s.cuts[j]?.getD v0).good = true ∧ -1048576 ≤ (s.cuts[j]?.getD v0).i ∧ (s.cuts[j]?.getD v0).i ≤ 1048576 ∧ (g j).i = (s.cuts[j]?.getD v0).i ∧ (g j).kd = s.kd := fun j hj => by
    have h1 : s.cuts[j]?.getD v0 ∈ s.cuts := by rw [List.getElem?_eq_getElem hj]; exact List.getElem_mem hj
    obtain ⟨h2, h3⟩ := okB_cuts hok _ h1
    obtain ⟨h4, h5⟩ := day_bound h2 (by rw [h3]; exact hd)
    have h6 := hgs j hj
    exact ⟨hgo _ h1, h4, h5, h6.i, by rw [h6.kd, h3]⟩
  have hform : ∀ j, j < s.cuts.length → ∃ a1 n1 m1 a2 n2 m2, g j = ⟨(g j).kd, (g j).b1, .slice a1 n1 m1, (g j).b2, .slice a2 n2 m2, (g j).i⟩ := fun j hj => by
    have h6 := hgs j hj
    obtain ⟨a1, m1, h7, _⟩ := h6.n.form
    obtain ⟨a2, m2, h8, _⟩ := h6.d.form
    exact ⟨a1, _, m1, a2, _, m2, by rw [← h7, ← h8]⟩
  have HAL := Lib.hid hall
  have HFO := Lib.hid hform
  have HGS := Lib.hid hgs
  have HCC := Lib.hid hccl
  have HQ1 := Lib.hid q1
  have HQ2 := Lib.hid q2
  obtain ⟨V, hV⟩ : ∃ V, smpW s c = V := ⟨_, rfl⟩
  rw [hV]
  have HV := Lib.hid hV
  obtain ⟨n, hn⟩ : ∃ n, s.cuts.length = n := ⟨_, rfl⟩
  have HN := Lib.hid hn
  obtain ⟨kd, hkd⟩ : ∃ kd, s.kd = kd := ⟨_, rfl⟩
  have HKD := Lib.hid hkd
  rw [hn] at hv hn32 hn1 hcn HW HCC HAL HFO HGS HQ1 ⊢
  rw [hkd] at hv e2 e3 e0 HW HAL HQ1 hd ⊢
  have HM := Lib.hid hm
  obtain ⟨d0, d1, d2, d3, d4, d5, d6, d7, d8, d9, d10⟩ := HQ1.out.eleven
  clear hB hW1 hs hgo hok hp hpo hrow hgs hccl q1 q2 hall hform hV hn hkd
  go_enter Tryz.func20, Tryz.ntmps20
  go_upto_region 1 with fail
  simp only [HB.out]
  rw [HW.out]
  go_wp2_with fail
  refine hv.mono ?_
  rintro e w2 ⟨rfl, hb2⟩
  clear hv d0 d1 d2 d3 d4 d5 d6 d7 d8 d9 d10
  go_wp2_with fail
  refine (HPO.out w2 hb2).mono ?_
  rintro e w3 ⟨rfl, hb3⟩
  have b3' : Below W1.heap.size W1 w3 := hb2.trans (hb3.mono hb2.size)
  have b3 : Below B w w3 := b1.trans (b3'.mono (by omega))
  have hs3 := b3'.size
  clear hb2 hb3
  have hq1 := HQ1.out.below b3' (by omega)
  have hq2' := HQ2.out.below b3' (by omega)
  have d9 := hq1.at (i := 9) (x := .int .u8 kd) rfl
  have d10 := hq1.at (i := 10) (x := .slice (some ⟨cb, co, none⟩) n cm) rfl
  have HCC3 : Hid (∀ j, j < n → w3.rangeAt cb (co + j * 6) (g j).cells.toList) := Lib.hid fun j hj => vv_range (cells_below b3' (by omega) HCC.out) hj
  have cb3 : cb < w3.heap.size := by omega
  by_cases hodd : c % 2 = 1
  · have hr1 : Int.tmod (c : Int) 2 = 1 := by rw [Int.tmod_eq_emod_of_nonneg (by omega)]; omega
    have hmn : m < n := by omega
    obtain ⟨hgd, _⟩ := HAL.out m hmn
    have hcv := copyValue_any w3.heap.size (s.cuts[m]?.getD v0) (g m) w3 ((HGS.out m hmn).below b3' (by omega) (by omega)) hgd (Nat.le_refl _)
    have hVe : V = s.cuts[m]?.getD v0 := by rw [← HV.out]; unfold smpW; rw [if_pos hodd, HM.out]
    subst hVe
    obtain ⟨a1, n1, m1, a2, n2, m2, hgf⟩ := HFO.out m hmn
    have hrg := HCC3.out m hmn
    obtain ⟨gk, gb1, gb2, gi, hgm⟩ : ∃ gk gb1 gb2 gi, g m = ⟨gk, gb1, .slice a1 n1 m1, gb2, .slice a2 n2 m2, gi⟩ := ⟨_, _, _, _, hgf⟩
    rw [hgm] at hcv hrg
    have HRG := Lib.hid hrg
    clear hgf hgm hrg hgd hm
    go_wp2_with (refine wpList_load_mid rfl 30 (.tmp 30) rfl cb (co + m * 6) rfl (⟨gk, gb1, .slice a1 n1 m1, gb2, .slice a2 n2 m2, gi⟩ : Vv).cells.toList _ HRG.out Tryz.underlying30 rfl infoValN ?_)
    refine hcv.mono ?_
    rintro e w4 ⟨z, rfl, hz, hb4⟩
    clear hcv
    have hz0 := hz.get fun b hb => hb.2
    obtain ⟨b1a, b1m, hf1, _⟩ := hz0.n.form
    obtain ⟨b2a, b2m, hf2, _⟩ := hz0.d.form
    obtain ⟨x1, hx1⟩ : ∃ x, (s.cuts[m]?.getD v0).l1.length = x := ⟨_, rfl⟩
    obtain ⟨x2, hx2⟩ : ∃ x, (s.cuts[m]?.getD v0).l2.length = x := ⟨_, rfl⟩
    rw [hx1] at hf1
    rw [hx2] at hf2
    obtain ⟨zk, zb1, zs1, zb2, zs2, zi⟩ := z
    dsimp only at hf1 hf2
    subst hf1 hf2
    have hs4 := hb4.size
    have q4 := hq2'.below hb4 (by omega)
    have h1c : ∀ u ∈ (⟨zk, zb1, .slice b1a x1 b1m, zb2, .slice b2a x2 b2m, zi⟩ : Vv).cells, u.oneCell' = true := by simp [Value.oneCell']
    have HZ := Lib.hid hz
    have HQ4 := Lib.hid q4
    clear hz hz0 hx1 hx2 hq1 hq2' q4 d9 d10
    go_wp2_with (refine wpList_store_blk rfl 30 30 (.tmp 4) (.tmp 32) rfl (⟨zk, zb1, .slice b1a x1 b1m, zb2, .slice b2a x2 b2m, zi⟩ : Vv).cells _ (B + 1) HQ4.out infoValN rfl h1c rfl rfl ?_; intro W2 t1 t2 t3 t4)
    refine bodyPost_ret (v := .tuple #[(⟨zk, zb1, .slice b1a x1 b1m, zb2, .slice b2a x2 b2m, zi⟩ : Vv).agg, .bool true]) ?_ rfl ?_
    · obtain ⟨e0, e1, e2, e3, e4, e5⟩ := t1.six
      simp [results, Tryz.results20, go_sem, e0, e1, e2, e3, e4, e5]
    refine ⟨_, rfl, HZ.out W2 _ (agr_grown t3 (fun b hb => hb.2) fun b hb => ?_) (fun b hb => by have := hb.2; omega), b3.trans ((hb4.mono (by omega)).trans (t2 B (by omega)))⟩
    cases hb
    intro h
    have := h.1
    omega
  · have hr1 : Int.tmod (c : Int) 2 = 0 := by rw [Int.tmod_eq_emod_of_nonneg (by omega)]; omega
    obtain ⟨I, hI⟩ : ∃ I, smpI s c = I := ⟨_, rfl⟩
    have hVe : V = wholeV kd I := by rw [← HV.out]; unfold smpW; rw [if_neg hodd, HKD.out, hI]
    subst hVe
    unfold smpI at hI
    rw [HM.out, HN.out] at hI
    have h1c : ∀ u ∈ (wholeX kd I).cells, u.oneCell' = true := by simp [Value.oneCell']
    by_cases hm0 : m = 0
    · subst hm0
      rw [if_pos rfl] at hI
      obtain ⟨_, hlo, hhi, hgi, hgk⟩ := HAL.out 0 (by omega)
      obtain ⟨a1, n1, m1, a2, n2, m2, hgf⟩ := HFO.out 0 (by omega)
      have hrg := HCC3.out 0 (by omega)
      rw [Nat.zero_mul, Nat.add_zero] at hrg
      rw [hgi, hgk] at hgf
      have hbe := fun W => gbesideW_any kd (s.cuts[0]?.getD v0).i (-1) (g 0).b1 (g 0).b2 a1 a2 n1 m1 n2 m2 W hd ⟨hlo, hhi⟩ (by omega)
      rw [hI] at hbe
      rw [hgf] at hrg
      have HRG := Lib.hid hrg
      have HBE := Lib.hid hbe
      have HQ4 := Lib.hid hq2'
      have h0n : 0 < n := by omega
      clear hgf hrg hbe hlo hhi hgi hgk hI hm
      go_wp2_with (refine wpList_load_mid rfl 30 (.tmp 38) rfl cb co rfl (⟨kd, (g 0).b1, .slice a1 n1 m1, (g 0).b2, .slice a2 n2 m2, (s.cuts[0]?.getD v0).i⟩ : Vv).cells.toList _ HRG.out Tryz.underlying30 rfl infoValN ?_)
      refine (HBE.out _).mono ?_
      rintro e w4 ⟨rfl, hb4⟩
      have q4 := HQ4.out.below hb4 (by omega)
      go_wp2_with (refine wpList_store_blk rfl 30 30 (.tmp 4) (.tmp 41) rfl (wholeX kd I).cells _ (B + 1) q4 infoValN rfl h1c rfl rfl ?_; intro W2 t1 t2 t3 t4)
      refine bodyPost_ret (v := .tuple #[(wholeX kd I).agg, .bool true]) ?_ rfl ?_
      · obtain ⟨e0, e1, e2, e3, e4, e5⟩ := t1.six
        simp [results, Tryz.results20, go_sem, e0, e1, e2, e3, e4, e5]
      exact ⟨_, rfl, wholeX_is _ _ _ _, b3.trans ((hb4.mono (by omega)).trans (t2 B (by omega)))⟩
    · rw [if_neg hm0] at hI
      have em0 : ((m : Int) == 0) = false := by simp; omega
      obtain ⟨p, hpm⟩ : ∃ p, p + 1 = m := ⟨m - 1, by omega⟩
      have hsub : IntKind.i64.wrap ((m : Int) - 1) = (p : Int) := by rw [show (m : Int) - 1 = p by omega]; exact IntWalk.i64_in _ (by omega)
      obtain ⟨_, hlo, hhi, hgi, hgk⟩ := HAL.out p (by omega)
      obtain ⟨a1, n1, m1, a2, n2, m2, hgf⟩ := HFO.out p (by omega)
      have hrg := HCC3.out p (by omega)
      rw [hgi, hgk] at hgf
      rw [hgf] at hrg
      have HRG := Lib.hid hrg
      have HQ4 := Lib.hid hq2'
      have hpn : p < n := by omega
      by_cases hmn : m = n
      · subst hmn
        rw [if_pos rfl, show m - 1 = p by omega] at hI
        have hbe := fun W => gbesideW_any kd (s.cuts[p]?.getD v0).i 1 (g p).b1 (g p).b2 a1 a2 n1 m1 n2 m2 W hd ⟨hlo, hhi⟩ (by omega)
        rw [hI] at hbe
        have HBE := Lib.hid hbe
        clear hgf hrg hbe hlo hhi hgi hgk hI hm
        go_wp2_with (refine wpList_load_mid rfl 30 (.tmp 53) rfl cb (co + p * 6) rfl (⟨kd, (g p).b1, .slice a1 n1 m1, (g p).b2, .slice a2 n2 m2, (s.cuts[p]?.getD v0).i⟩ : Vv).cells.toList _ HRG.out Tryz.underlying30 rfl infoValN ?_)
        refine (HBE.out _).mono ?_
        rintro e w4 ⟨rfl, hb4⟩
        have q4 := HQ4.out.below hb4 (by omega)
        go_wp2_with (refine wpList_store_blk rfl 30 30 (.tmp 4) (.tmp 56) rfl (wholeX kd I).cells _ (B + 1) q4 infoValN rfl h1c rfl rfl ?_; intro W2 t1 t2 t3 t4)
        refine bodyPost_ret (v := .tuple #[(wholeX kd I).agg, .bool true]) ?_ rfl ?_
        · obtain ⟨e0, e1, e2, e3, e4, e5⟩ := t1.six
          simp [results, Tryz.results20, go_sem, e0, e1, e2, e3, e4, e5]
        exact ⟨_, rfl, wholeX_is _ _ _ _, b3.trans ((hb4.mono (by omega)).trans (t2 B (by omega)))⟩
      · rw [if_neg hmn, show m - 1 = p by omega] at hI
        obtain ⟨_, hlo2, hhi2, hgi2, hgk2⟩ := HAL.out m (by omega)
        obtain ⟨a3, n3, m3, a4, n4, m4, hgf2⟩ := HFO.out m (by omega)
        have hrg2 := HCC3.out m (by omega)
        rw [hgi2, hgk2] at hgf2
        rw [hgf2] at hrg2
        have hmi := fun W => gmiddleW_any kd (s.cuts[p]?.getD v0).i (s.cuts[m]?.getD v0).i (g p).b1 (g p).b2 (g m).b1 (g m).b2 a1 a2 a3 a4 n1 m1 n2 m2 n3 m3 n4 m4 W hd ⟨hlo, hhi⟩ ⟨hlo2, hhi2⟩ kd
        rw [hI] at hmi
        have HMI := Lib.hid hmi
        have HGP := Lib.hid hgf
        have HGM := Lib.hid hgf2
        have HRG2 := Lib.hid hrg2
        have emn : ((m : Int) == (n : Int)) = false := by simp; omega
        have hmn2 : m < n := by omega
        have hcbK : cb < W1.heap.size := by omega
        clear hgf hrg hlo hhi hgi hgk hI hm hgf2 hrg2 hlo2 hhi2 hgi2 hgk2 hmi
        go_upto_region 12 with fail
        have HQ1' := Lib.hid hq1
        clear d9 d10 hq1 hq2'
        have l3 : B + 1 < w3.heap.size := by omega
        refine region_plain (fun W' => Below w3.heap.size w3 W') [14, 15] (by kernel_rfl) ?_
        have qS : (fun W' => Below w3.heap.size w3 W') w3.drew := below_quiet (Below.refl _ _)
        have hRS : ∀ W' j, Below w3.heap.size w3 W' → j < n → W'.rangeAt cb (co + j * 6) (g j).cells.toList := fun W' j hb hj => vv_range (cells_below (b3'.trans (hb.mono hs3)) (by omega) HCC.out) hj
        refine wpAnyD_take (i := 0) (v := .pointer (some ⟨B, 10, none⟩)) rfl (by kernel_rfl) (by kernel_rfl) (by kernel_rfl) (by kernel_rfl) (by kernel_rfl) (fun _ _ _ h => h) (.inl ⟨by kernel_rfl, fun W' hS => by go_simp⟩) qS ?_
        refine wpAnyD_take (i := 1) (v := .slice (some ⟨cb, co, none⟩) n cm) rfl (by kernel_rfl) (by kernel_rfl) (by kernel_rfl) (by kernel_rfl) (by kernel_rfl) (fun _ _ _ h => h) (.inl ⟨by kernel_rfl, fun W' hS => by have d10 := (HQ1'.out.below hS (by omega)).at (i := 10) (x := .slice (some ⟨cb, co, none⟩) n cm) rfl; go_simp⟩) qS ?_
        refine wpAnyD_take (i := 2) (v := .int .i64 (m : Int)) rfl (by kernel_rfl) (by kernel_rfl) (by kernel_rfl) (by kernel_rfl) (by kernel_rfl) (fun _ _ _ h => h) (.inl ⟨by kernel_rfl, fun W' hS => by go_simp⟩) qS ?_
        refine wpAnyD_take (i := 3) (v := .int .i64 (p : Int)) rfl (by kernel_rfl) (by kernel_rfl) (by kernel_rfl) (by kernel_rfl) (by kernel_rfl) (fun _ _ _ h => h) (.inl ⟨by kernel_rfl, fun W' hS => by go_simp⟩) qS ?_
        refine wpAnyD_take (i := 4) (v := .pointer (some ⟨cb, co + p * 6, none⟩)) rfl (by kernel_rfl) (by kernel_rfl) (by kernel_rfl) (by kernel_rfl) (by kernel_rfl) (fun _ _ _ h => h) (.inl ⟨by kernel_rfl, fun W' hS => by go_simp⟩) qS ?_
        refine wpAnyD_take (i := 5) (v := (⟨kd, (g p).b1, .slice a1 n1 m1, (g p).b2, .slice a2 n2 m2, (s.cuts[p]?.getD v0).i⟩ : Vv).agg) rfl (by kernel_rfl) (by kernel_rfl) (by kernel_rfl) (by kernel_rfl) (by kernel_rfl) (fun _ _ _ h => h) (yieldsIf_load_mid (by kernel_rfl) 30 (.tmp 62) rfl cb (co + p * 6) rfl (⟨kd, (g p).b1, .slice a1 n1 m1, (g p).b2, .slice a2 n2 m2, (s.cuts[p]?.getD v0).i⟩ : Vv).cells.toList _ (fun W' hS => by have h := hRS W' p hS hpn; rwa [HGP.out] at h) Tryz.underlying30 rfl infoValN) qS ?_
        refine wpAnyD_take (i := 6) (v := .pointer (some ⟨B, 10, none⟩)) rfl (by kernel_rfl) (by kernel_rfl) (by kernel_rfl) (by kernel_rfl) (by kernel_rfl) (fun _ _ _ h => h) (.inl ⟨by kernel_rfl, fun W' hS => by go_simp⟩) qS ?_
        refine wpAnyD_take (i := 7) (v := .slice (some ⟨cb, co, none⟩) n cm) rfl (by kernel_rfl) (by kernel_rfl) (by kernel_rfl) (by kernel_rfl) (by kernel_rfl) (fun _ _ _ h => h) (.inl ⟨by kernel_rfl, fun W' hS => by have d10 := (HQ1'.out.below hS (by omega)).at (i := 10) (x := .slice (some ⟨cb, co, none⟩) n cm) rfl; go_simp⟩) qS ?_
        refine wpAnyD_take (i := 8) (v := .int .i64 (m : Int)) rfl (by kernel_rfl) (by kernel_rfl) (by kernel_rfl) (by kernel_rfl) (by kernel_rfl) (fun _ _ _ h => h) (.inl ⟨by kernel_rfl, fun W' hS => by go_simp⟩) qS ?_
        refine wpAnyD_take (i := 9) (v := .pointer (some ⟨cb, co + m * 6, none⟩)) rfl (by kernel_rfl) (by kernel_rfl) (by kernel_rfl) (by kernel_rfl) (by kernel_rfl) (fun _ _ _ h => h) (.inl ⟨by kernel_rfl, fun W' hS => by go_simp⟩) qS ?_
        refine wpAnyD_take (i := 10) (v := (⟨kd, (g m).b1, .slice a3 n3 m3, (g m).b2, .slice a4 n4 m4, (s.cuts[m]?.getD v0).i⟩ : Vv).agg) rfl (by kernel_rfl) (by kernel_rfl) (by kernel_rfl) (by kernel_rfl) (by kernel_rfl) (fun _ _ _ h => h) (yieldsIf_load_mid (by kernel_rfl) 30 (.tmp 67) rfl cb (co + m * 6) (by go_simp) (⟨kd, (g m).b1, .slice a3 n3 m3, (g m).b2, .slice a4 n4 m4, (s.cuts[m]?.getD v0).i⟩ : Vv).cells.toList _ (fun W' hS => by have h := hRS W' m hS hmn2; rwa [HGM.out] at h) Tryz.underlying30 rfl infoValN) qS ?_
        refine wpAnyD_one (i := 11) (by kernel_rfl) rfl (by kernel_rfl) ?_
        go_simp
        refine (HMI.out _).mono ?_
        rintro e w4 ⟨rfl, hb4⟩
        have qS4 : Below w3.heap.size w3 w4 := qS.trans (hb4.mono qS.size)
        go_simp
        refine wpAnyD_take (i := 12) (v := (wholeX kd I).agg) rfl (by kernel_rfl) (by kernel_rfl) (by kernel_rfl) (by kernel_rfl) (by kernel_rfl) (fun _ _ _ h => h) (.inl ⟨by kernel_rfl, fun W' hS => by go_simp⟩) qS4 ?_
        refine wpAnyD_take (i := 13) (v := .bool true) rfl (by kernel_rfl) (by kernel_rfl) (by kernel_rfl) (by kernel_rfl) (by kernel_rfl) (fun _ _ _ h => h) (.inl ⟨by kernel_rfl, fun W' hS => by go_simp⟩) qS4 ?_
        have q4 := HQ4.out.below qS4 (by omega)
        obtain ⟨u0, u1, u2, u3, u4, u5⟩ := q4.six
        have v0' := q4.free 0
        have v1 := q4.free 1
        have v2 := q4.free 2
        have v3 := q4.free 3
        have v4 := q4.free 4
        have v5 := q4.free 5
        refine wpAnyD_one (i := 14) (by kernel_rfl) rfl (by kernel_rfl) ?_
        go_simp
        refine wpAnyD_one (i := 15) (by kernel_rfl) rfl (by kernel_rfl) ?_
        go_simp
        refine wpAnyD_done (by kernel_rfl) ?_ _
        have q5 := (((((q4.set (i := 0) (.int .u8 kd)).set (i := 1) (.bool false)).set (i := 2) (.slice none 0 0)).set (i := 3) (.bool false)).set (i := 4) (.slice none 0 0)).set (i := 5) (.int .i64 I)
        obtain ⟨e0', e1, e2', e3', e4, e5⟩ := q5.six
        have b4 : Below B w w4 := b3.trans (qS4.mono (by omega))
        clear u0 u1 u2 u3 u4 u5 v0' v1 v2 v3 v4 v5 q4 q5 hRS qS qS4 hb4
        go_wp2_with fail
        refine bodyPost_ret (v := .tuple #[(wholeX kd I).agg, .bool true]) (by simp [results, Tryz.results20, go_sem, e0', e1, e2', e3', e4, e5]) rfl ?_
        exact ⟨_, rfl, wholeX_is _ _ _ _, (((((b4.setCell (p := ⟨B + 1, 0, none⟩) (by simp) _).setCell (p := ⟨B + 1, 1, none⟩) (by simp) _).setCell (p := ⟨B + 1, 2, none⟩) (by simp) _).setCell (p := ⟨B + 1, 3, none⟩) (by simp) _).setCell (p := ⟨B + 1, 4, none⟩) (by simp) _).setCell (p := ⟨B + 1, 5, none⟩) (by simp) _⟩
end Go.Proofs.YthooiobhlbnaoaaGreat
namespace Go.Proofs.YthooiobhlbnaoaaGreat
open Go.RowKit
set_option linter.unusedVariables false

set_option maxRecDepth 100000 in
set_option maxHeartbeats 1000000 in
theorem gmid01_any (K : Nat) (u v x y : Value) (w : World) (hu : Wd .u16 K w u 0) (hv : Wd .u16 K w v 1) (hx : Wd .u16 K w x 1) (hy : Wd .u16 K w y 1) (hK : K ≤ w.heap.size) :
    Calls Tryz.prog 67 #[(⟨2, false, u, false, v, 0⟩ : Vv).agg, (⟨2, false, x, false, y, 0⟩ : Vv).agg] w fun e w' => ∃ r t, e = .returned (.tuple #[(⟨2, false, r, false, t, 0⟩ : Vv).agg, .bool true]) ∧ Wd .u16 w'.heap.size w' r 1 ∧ Wd .u16 w'.heap.size w' t 2 ∧ Below w.heap.size w w' ∧ NewV w.heap.size r ∧ NewV w.heap.size t := by
  have hadd : ∀ W, Below w.heap.size w W → Calls Tryz.prog 110 #[Fv u v, Fv x y] W fun e w' => ∃ r t, e = .returned (.tuple #[Fv r t, .int .i64 0]) ∧ Wd .u16 w'.heap.size w' r 1 ∧ Wd .u16 w'.heap.size w' t 1 ∧ Below W.heap.size W w' ∧ NewV W.heap.size r ∧ NewV W.heap.size t := fun W hb =>
    fadd0_any W.heap.size u v x y 1 1 W (hu.below hb hK (Nat.le_trans hK hb.size)) (hv.below hb hK (Nat.le_trans hK hb.size)) (hx.below hb hK (Nat.le_trans hK hb.size)) (hy.below hb hK (Nat.le_trans hK hb.size)) (Nat.le_refl _) ⟨by omega, by omega, by omega, .inl rfl⟩ (by omega) (by decide)
  have HADD := Lib.hid hadd
  obtain ⟨ua, um, uc, rfl⟩ := hu.form
  obtain ⟨va, vm, vc, rfl⟩ := hv.form
  obtain ⟨xa, xm, xc, rfl⟩ := hx.form
  obtain ⟨ya, ym, yc, rfl⟩ := hy.form
  obtain ⟨W1, hW1⟩ : ∃ W1, ((w.alloc (.cells (⟨2, false, .slice ua um uc, false, .slice va vm vc, 0⟩ : Vv).cells 30)).alloc (.cells (⟨2, false, .slice xa xm xc, false, .slice ya ym yc, 0⟩ : Vv).cells 30)).alloc (.cells vv0.cells 30) = W1 := ⟨_, rfl⟩
  obtain ⟨b1, q0, q1, q2, s1⟩ := alloc3 w _ _ _ _ _ _ hW1
  have HW := Lib.hid hW1
  obtain ⟨B, hB⟩ : ∃ B, w.heap.size = B := ⟨_, rfl⟩
  have HB := Lib.hid hB
  rw [hB] at hK b1 q0 q1 q2 s1 HADD ⊢
  dsimp only [Vv.cells, vv0] at HW
  clear hB hW1 hadd
  obtain ⟨c0, c1, c2, c3, c4, c5⟩ := q0.six
  obtain ⟨d0, d1, d2, d3, d4, d5⟩ := q1.six
  go_enter Tryz.func67, Tryz.ntmps67
  go_upto_region 1 with fail
  simp only [HB.out, Nat.add_assoc, Nat.reduceAdd]
  rw [HW.out]
  go_wp2_with fail
  refine (HADD.out W1 b1).mono ?_
  rintro e w2 ⟨r, t, rfl, hr, ht, hb2, hn1, hn2⟩
  obtain ⟨ra, rm, rc, rfl⟩ := hr.form
  obtain ⟨ta, tm, tc, rfl⟩ := ht.form
  have b2 : Below B w w2 := b1.trans (hb2.mono (by omega))
  have hs2 := hb2.size
  have q0 := q0.below hb2 q0.lt
  have q2 := q2.below hb2 q2.lt
  clear c0 c1 c2 c3 c4 c5 d0 d1 d2 d3 d4 d5
  go_upto_region 6 with fail
  generalize hW3 : w2.alloc _ = W3
  have b3' : Below w2.heap.size w2 W3 := by rw [← hW3]; exact (Below.refl _ _).alloc (Nat.le_refl _) _
  have q3 : Blk W3 w2.heap.size #[.bool false, .slice ra rm rc, .bool false, .slice ta tm tc] 28 := by rw [← hW3]; exact Blk.new w2 _ _
  have s3 : W3.heap.size = w2.heap.size + 1 := by rw [← hW3]; simp
  have b3 : Below B w W3 := b2.trans (b3'.mono (by omega))
  have q0 := q0.below b3' q0.lt
  have q2 := q2.below b3' q2.lt
  have hr3 := hr.below b3' (Nat.le_refl _) (show w2.heap.size ≤ W3.heap.size by omega)
  have ht3 := ht.below b3' (Nat.le_refl _) (show w2.heap.size ≤ W3.heap.size by omega)
  obtain ⟨G, hG⟩ : ∃ G, w2.heap.size = G := ⟨_, rfl⟩
  rw [hG] at s3 q3 ⊢
  have hGB : B + 3 ≤ G := by omega
  have q3lt : G < W3.heap.size := by omega
  have hw3 : w2.heap.size ≤ W3.heap.size := by omega
  have hsB : B + 3 ≤ W3.heap.size := by omega
  clear hW3 hG b3' hr ht hb2 s3 hw3
  refine region_plain (fun W' => Below W3.heap.size W3 W') [5, 6, 7] (by kernel_rfl) ?_
  have qS : (fun W' => Below W3.heap.size W3 W') W3.drew := below_quiet (Below.refl _ _)
  refine wpAnyD_takeC [5, 6, 7, 3, 2] (i := 0) (v := Fv (.slice ra rm rc) (.slice ta tm tc)) rfl (by kernel_rfl) (by kernel_rfl) (by kernel_rfl) (by kernel_rfl) (by kernel_rfl) (by kernel_rfl) (fun _ _ _ h => h) (.inl ⟨by kernel_rfl, fun W' hS => by obtain ⟨c0, c1, c2, c3⟩ := (q3.below hS q3.lt).four; go_simp⟩) qS ?_
  refine wpAnyD_one (i := 1) (by kernel_rfl) rfl (by kernel_rfl) ?_
  go_simp
  refine (ffromint_any 2 _ (.inr rfl)).mono ?_
  rintro e w4 ⟨f, h, rfl, ⟨fa, fc, rfl⟩, ⟨ha, hc, rfl⟩, hz, hb4⟩
  have qS4 : Below W3.heap.size W3 w4 := qS.trans (hb4.mono qS.size)
  obtain ⟨hf4, hh4⟩ := hz.get fun b hb => hb.2
  go_simp
  refine wpAnyD_one (i := 2) (by kernel_rfl) rfl (by kernel_rfl) ?_
  go_simp
  refine (fdiv_any w4.heap.size _ _ _ _ 1 1 2 1 w4 (hr3.below qS4 (by omega) (by have := qS4.size; omega)) (ht3.below qS4 (by omega) (by have := qS4.size; omega)) hf4 hh4 (Nat.le_refl _) ⟨by omega, by omega, by omega, .inl rfl⟩ ⟨by omega, by omega, by omega, .inl rfl⟩ (by omega) (by omega) (by omega) (by omega) (by omega) (by decide)).mono ?_
  rintro e w5 ⟨r5, t5, rfl, hr5, ht5, hb5, hn5, hn6⟩
  have qS5 : Below W3.heap.size W3 w5 := qS4.trans (hb5.mono qS4.size)
  have hs4 := qS4.size
  obtain ⟨r5a, r5m, r5c, rfl⟩ := hr5.form
  obtain ⟨t5a, t5m, t5c, rfl⟩ := ht5.form
  go_simp
  refine wpAnyD_take (i := 3) (v := .tuple #[Fv (.slice r5a r5m r5c) (.slice t5a t5m t5c), .int .i64 0]) rfl (by kernel_rfl) (by kernel_rfl) (by kernel_rfl) (by kernel_rfl) (by kernel_rfl) (fun _ _ _ h => h) (.inl ⟨by kernel_rfl, fun W' hS => by go_simp⟩) qS5 ?_
  have q5 := q3.below qS5 q3.lt
  obtain ⟨c0, c1, c2, c3⟩ := q5.four
  have f0 := q5.free 0
  have f1 := q5.free 1
  have f2 := q5.free 2
  have f3 := q5.free 3
  refine wpAnyD_two (i := 4) (j := 5) (by kernel_rfl) rfl rfl (by kernel_rfl) (by kernel_rfl) ?_ ?_
  · go_simp
    refine wpAnyD_two (i := 5) (j := 6) (by kernel_rfl) rfl rfl (by kernel_rfl) (by kernel_rfl) ?_ ?_
    · go_simp
      refine wpAnyD_one (i := 6) (by kernel_rfl) rfl (by kernel_rfl) ?_
      go_simp
      refine wpAnyD_one (i := 7) (by kernel_rfl) rfl (by kernel_rfl) ?_
      go_simp
      refine wpAnyD_done (by kernel_rfl) ?_ _
      clear c0 c1 c2 c3 f0 f1 f2 f3
      have b5 : Below B w w5 := b3.trans (qS5.mono (by omega))
      have q0 := q0.below qS5 (by omega)
      have q2 := q2.below qS5 (by omega)
      have y5 := (((q5.set (i := 0) (.bool false)).set (i := 1) (.slice r5a r5m r5c)).set (i := 2) (.bool false)).set (i := 3) (.slice t5a t5m t5c)
      have y0 := (((q0.other (b' := G) (i := 0) (by omega) (.bool false)).other (b' := G) (i := 1) (by omega) (.slice r5a r5m r5c)).other (b' := G) (i := 2) (by omega) (.bool false)).other (b' := G) (i := 3) (by omega) (.slice t5a t5m t5c)
      have y2 := (((q2.other (b' := G) (i := 0) (by omega) (.bool false)).other (b' := G) (i := 1) (by omega) (.slice r5a r5m r5c)).other (b' := G) (i := 2) (by omega) (.bool false)).other (b' := G) (i := 3) (by omega) (.slice t5a t5m t5c)
      have z1 := (((hr5.set (r := G) (i := 0) (x := .bool false) hn5 (by omega)).set (r := G) (i := 1) (x := .slice r5a r5m r5c) hn5 (by omega)).set (r := G) (i := 2) (x := .bool false) hn5 (by omega)).set (r := G) (i := 3) (x := .slice t5a t5m t5c) hn5 (by omega)
      have z2 := (((ht5.set (r := G) (i := 0) (x := .bool false) hn6 (by omega)).set (r := G) (i := 1) (x := .slice r5a r5m r5c) hn6 (by omega)).set (r := G) (i := 2) (x := .bool false) hn6 (by omega)).set (r := G) (i := 3) (x := .slice t5a t5m t5c) hn6 (by omega)
      have b6 := (((b5.setCell (p := ⟨G, 0, none⟩) (by simp; omega) (.bool false)).setCell (p := ⟨G, 1, none⟩) (by simp; omega) (.slice r5a r5m r5c)).setCell (p := ⟨G, 2, none⟩) (by simp; omega) (.bool false)).setCell (p := ⟨G, 3, none⟩) (by simp; omega) (.slice t5a t5m t5c)
      have s6 : ((((w5.setCell ⟨G, 0, none⟩ (.bool false)).setCell ⟨G, 1, none⟩ (.slice r5a r5m r5c)).setCell ⟨G, 2, none⟩ (.bool false)).setCell ⟨G, 3, none⟩ (.slice t5a t5m t5c)).heap.size = w5.heap.size := by simp [World.setCell]
      generalize hW6 : (((w5.setCell ⟨G, 0, none⟩ (.bool false)).setCell ⟨G, 1, none⟩ (.slice r5a r5m r5c)).setCell ⟨G, 2, none⟩ (.bool false)).setCell ⟨G, 3, none⟩ (.slice t5a t5m t5c) = W6 at y5 y0 y2 z1 z2 b6 s6 ⊢
      clear hW6
      have g0 := y0.at (i := 0) (x := .int .u8 2) rfl
      obtain ⟨c0, c1, c2, c3⟩ := y5.four
      have h1c : ∀ u ∈ (⟨2, false, .slice r5a r5m r5c, false, .slice t5a t5m t5c, 0⟩ : Vv).cells, u.oneCell' = true := by simp [Value.oneCell']
      go_wp2_with (refine wpList_store_blk rfl 30 30 (.tmp 4) (.tmp 48) rfl (⟨2, false, .slice r5a r5m r5c, false, .slice t5a t5m t5c, 0⟩ : Vv).cells _ (B + 2) y2 infoValN rfl h1c rfl rfl ?_; intro W7 t1 t2 t3 t4)
      refine bodyPost_ret (v := .tuple #[(⟨2, false, .slice r5a r5m r5c, false, .slice t5a t5m t5c, 0⟩ : Vv).agg, .bool true]) ?_ rfl ?_
      · obtain ⟨e0, e1, e2, e3, e4, e5⟩ := t1.six
        simp [results, Tryz.results67, go_sem, e0, e1, e2, e3, e4, e5]
      have hkeep : ∀ (vv : Value) (n : Nat), Wd .u16 w5.heap.size W6 vv n → NewV w4.heap.size vv → Wd .u16 W7.heap.size W7 vv n := fun vv n h hn => by
        rcases h with ⟨h0, h1⟩ | ⟨h0, b, o, c, rfl, h1, h2, h3, h4⟩
        · exact .inl ⟨h0, h1⟩
        · have := hn b o 1 c rfl
          exact .inr ⟨h0, b, o, c, rfl, h1, h2, by omega, t3.cell h4 (by simp; omega)⟩
      exact ⟨_, _, rfl, hkeep _ _ z1 hn5, hkeep _ _ z2 hn6, b6.trans (t2 B (by omega)), hn5.mono (by omega), hn6.mono (by omega)⟩
    · go_simp
      refine wpAnyD_one (i := 5) (by kernel_rfl) rfl (by kernel_rfl) ?_
      go_simp
      refine wpAnyD_one (i := 7) (by kernel_rfl) rfl (by kernel_rfl) ?_
      go_simp
      refine wpAnyD_done (by kernel_rfl) ?_ _
      clear c0 c1 c2 c3 f0 f1 f2 f3
      have b5 : Below B w w5 := b3.trans (qS5.mono (by omega))
      have q0 := q0.below qS5 (by omega)
      have q2 := q2.below qS5 (by omega)
      have y5 := (((q5.set (i := 0) (.bool false)).set (i := 1) (.slice r5a r5m r5c)).set (i := 2) (.bool false)).set (i := 3) (.slice t5a t5m t5c)
      have y0 := (((q0.other (b' := G) (i := 0) (by omega) (.bool false)).other (b' := G) (i := 1) (by omega) (.slice r5a r5m r5c)).other (b' := G) (i := 2) (by omega) (.bool false)).other (b' := G) (i := 3) (by omega) (.slice t5a t5m t5c)
      have y2 := (((q2.other (b' := G) (i := 0) (by omega) (.bool false)).other (b' := G) (i := 1) (by omega) (.slice r5a r5m r5c)).other (b' := G) (i := 2) (by omega) (.bool false)).other (b' := G) (i := 3) (by omega) (.slice t5a t5m t5c)
      have z1 := (((hr5.set (r := G) (i := 0) (x := .bool false) hn5 (by omega)).set (r := G) (i := 1) (x := .slice r5a r5m r5c) hn5 (by omega)).set (r := G) (i := 2) (x := .bool false) hn5 (by omega)).set (r := G) (i := 3) (x := .slice t5a t5m t5c) hn5 (by omega)
      have z2 := (((ht5.set (r := G) (i := 0) (x := .bool false) hn6 (by omega)).set (r := G) (i := 1) (x := .slice r5a r5m r5c) hn6 (by omega)).set (r := G) (i := 2) (x := .bool false) hn6 (by omega)).set (r := G) (i := 3) (x := .slice t5a t5m t5c) hn6 (by omega)
      have b6 := (((b5.setCell (p := ⟨G, 0, none⟩) (by simp; omega) (.bool false)).setCell (p := ⟨G, 1, none⟩) (by simp; omega) (.slice r5a r5m r5c)).setCell (p := ⟨G, 2, none⟩) (by simp; omega) (.bool false)).setCell (p := ⟨G, 3, none⟩) (by simp; omega) (.slice t5a t5m t5c)
      have s6 : ((((w5.setCell ⟨G, 0, none⟩ (.bool false)).setCell ⟨G, 1, none⟩ (.slice r5a r5m r5c)).setCell ⟨G, 2, none⟩ (.bool false)).setCell ⟨G, 3, none⟩ (.slice t5a t5m t5c)).heap.size = w5.heap.size := by simp [World.setCell]
      generalize hW6 : (((w5.setCell ⟨G, 0, none⟩ (.bool false)).setCell ⟨G, 1, none⟩ (.slice r5a r5m r5c)).setCell ⟨G, 2, none⟩ (.bool false)).setCell ⟨G, 3, none⟩ (.slice t5a t5m t5c) = W6 at y5 y0 y2 z1 z2 b6 s6 ⊢
      clear hW6
      have g0 := y0.at (i := 0) (x := .int .u8 2) rfl
      obtain ⟨c0, c1, c2, c3⟩ := y5.four
      have h1c : ∀ u ∈ (⟨2, false, .slice r5a r5m r5c, false, .slice t5a t5m t5c, 0⟩ : Vv).cells, u.oneCell' = true := by simp [Value.oneCell']
      go_wp2_with (refine wpList_store_blk rfl 30 30 (.tmp 4) (.tmp 48) rfl (⟨2, false, .slice r5a r5m r5c, false, .slice t5a t5m t5c, 0⟩ : Vv).cells _ (B + 2) y2 infoValN rfl h1c rfl rfl ?_; intro W7 t1 t2 t3 t4)
      refine bodyPost_ret (v := .tuple #[(⟨2, false, .slice r5a r5m r5c, false, .slice t5a t5m t5c, 0⟩ : Vv).agg, .bool true]) ?_ rfl ?_
      · obtain ⟨e0, e1, e2, e3, e4, e5⟩ := t1.six
        simp [results, Tryz.results67, go_sem, e0, e1, e2, e3, e4, e5]
      have hkeep : ∀ (vv : Value) (n : Nat), Wd .u16 w5.heap.size W6 vv n → NewV w4.heap.size vv → Wd .u16 W7.heap.size W7 vv n := fun vv n h hn => by
        rcases h with ⟨h0, h1⟩ | ⟨h0, b, o, c, rfl, h1, h2, h3, h4⟩
        · exact .inl ⟨h0, h1⟩
        · have := hn b o 1 c rfl
          exact .inr ⟨h0, b, o, c, rfl, h1, h2, by omega, t3.cell h4 (by simp; omega)⟩
      exact ⟨_, _, rfl, hkeep _ _ z1 hn5, hkeep _ _ z2 hn6, b6.trans (t2 B (by omega)), hn5.mono (by omega), hn6.mono (by omega)⟩
  · go_simp
    refine wpAnyD_one (i := 4) (by kernel_rfl) rfl (by kernel_rfl) ?_
    go_simp
    refine wpAnyD_one (i := 6) (by kernel_rfl) rfl (by kernel_rfl) ?_
    go_simp
    refine wpAnyD_one (i := 7) (by kernel_rfl) rfl (by kernel_rfl) ?_
    go_simp
    refine wpAnyD_done (by kernel_rfl) ?_ _
    clear c0 c1 c2 c3 f0 f1 f2 f3
    have b5 : Below B w w5 := b3.trans (qS5.mono (by omega))
    have q0 := q0.below qS5 (by omega)
    have q2 := q2.below qS5 (by omega)
    have y5 := (((q5.set (i := 0) (.bool false)).set (i := 1) (.slice r5a r5m r5c)).set (i := 2) (.bool false)).set (i := 3) (.slice t5a t5m t5c)
    have y0 := (((q0.other (b' := G) (i := 0) (by omega) (.bool false)).other (b' := G) (i := 1) (by omega) (.slice r5a r5m r5c)).other (b' := G) (i := 2) (by omega) (.bool false)).other (b' := G) (i := 3) (by omega) (.slice t5a t5m t5c)
    have y2 := (((q2.other (b' := G) (i := 0) (by omega) (.bool false)).other (b' := G) (i := 1) (by omega) (.slice r5a r5m r5c)).other (b' := G) (i := 2) (by omega) (.bool false)).other (b' := G) (i := 3) (by omega) (.slice t5a t5m t5c)
    have z1 := (((hr5.set (r := G) (i := 0) (x := .bool false) hn5 (by omega)).set (r := G) (i := 1) (x := .slice r5a r5m r5c) hn5 (by omega)).set (r := G) (i := 2) (x := .bool false) hn5 (by omega)).set (r := G) (i := 3) (x := .slice t5a t5m t5c) hn5 (by omega)
    have z2 := (((ht5.set (r := G) (i := 0) (x := .bool false) hn6 (by omega)).set (r := G) (i := 1) (x := .slice r5a r5m r5c) hn6 (by omega)).set (r := G) (i := 2) (x := .bool false) hn6 (by omega)).set (r := G) (i := 3) (x := .slice t5a t5m t5c) hn6 (by omega)
    have b6 := (((b5.setCell (p := ⟨G, 0, none⟩) (by simp; omega) (.bool false)).setCell (p := ⟨G, 1, none⟩) (by simp; omega) (.slice r5a r5m r5c)).setCell (p := ⟨G, 2, none⟩) (by simp; omega) (.bool false)).setCell (p := ⟨G, 3, none⟩) (by simp; omega) (.slice t5a t5m t5c)
    have s6 : ((((w5.setCell ⟨G, 0, none⟩ (.bool false)).setCell ⟨G, 1, none⟩ (.slice r5a r5m r5c)).setCell ⟨G, 2, none⟩ (.bool false)).setCell ⟨G, 3, none⟩ (.slice t5a t5m t5c)).heap.size = w5.heap.size := by simp [World.setCell]
    generalize hW6 : (((w5.setCell ⟨G, 0, none⟩ (.bool false)).setCell ⟨G, 1, none⟩ (.slice r5a r5m r5c)).setCell ⟨G, 2, none⟩ (.bool false)).setCell ⟨G, 3, none⟩ (.slice t5a t5m t5c) = W6 at y5 y0 y2 z1 z2 b6 s6 ⊢
    clear hW6
    have g0 := y0.at (i := 0) (x := .int .u8 2) rfl
    obtain ⟨c0, c1, c2, c3⟩ := y5.four
    have h1c : ∀ u ∈ (⟨2, false, .slice r5a r5m r5c, false, .slice t5a t5m t5c, 0⟩ : Vv).cells, u.oneCell' = true := by simp [Value.oneCell']
    go_wp2_with (refine wpList_store_blk rfl 30 30 (.tmp 4) (.tmp 48) rfl (⟨2, false, .slice r5a r5m r5c, false, .slice t5a t5m t5c, 0⟩ : Vv).cells _ (B + 2) y2 infoValN rfl h1c rfl rfl ?_; intro W7 t1 t2 t3 t4)
    refine bodyPost_ret (v := .tuple #[(⟨2, false, .slice r5a r5m r5c, false, .slice t5a t5m t5c, 0⟩ : Vv).agg, .bool true]) ?_ rfl ?_
    · obtain ⟨e0, e1, e2, e3, e4, e5⟩ := t1.six
      simp [results, Tryz.results67, go_sem, e0, e1, e2, e3, e4, e5]
    have hkeep : ∀ (vv : Value) (n : Nat), Wd .u16 w5.heap.size W6 vv n → NewV w4.heap.size vv → Wd .u16 W7.heap.size W7 vv n := fun vv n h hn => by
      rcases h with ⟨h0, h1⟩ | ⟨h0, b, o, c, rfl, h1, h2, h3, h4⟩
      · exact .inl ⟨h0, h1⟩
      · have := hn b o 1 c rfl
        exact .inr ⟨h0, b, o, c, rfl, h1, h2, by omega, t3.cell h4 (by simp; omega)⟩
    exact ⟨_, _, rfl, hkeep _ _ z1 hn5, hkeep _ _ z2 hn6, b6.trans (t2 B (by omega)), hn5.mono (by omega), hn6.mono (by omega)⟩

end Go.Proofs.YthooiobhlbnaoaaGreat
namespace Go.Proofs.YthooiobhlbnaoaaGreat
open Go.RowKit
set_option linter.unusedVariables false

theorem Wd.lm {K n : Nat} {w : World} {v : Value} (h : Wd .u16 K w v n) (h0 : 0 < n) (hn : n < 65536) : Lm K w v [n] := by
  rcases h with ⟨h1, _⟩ | ⟨_, b, o, c, rfl, h1, h2, h3, h4⟩
  · omega
  · refine ⟨RowsV.mk_cells (by simpa using h1) h2 h3 fun i hi j hj => ?_, fun d hd => by rw [List.mem_singleton.1 hd]; exact hn⟩
    obtain rfl : i = 0 := by simpa using hi
    obtain rfl : j = 0 := by omega
    simpa using h4
def num (m n : List Nat) : Vq := ⟨2, false, m, false, n, 0⟩
set_option maxRecDepth 100000 in
set_option maxHeartbeats 2000000 in
/-- Between the numbers zero and one. -/
theorem gsample01_any (K : Nat) (s : Sc) (y : Sv) (w : World) (hs : ScX K w s y) (hK : K ≤ w.heap.size) (hkd : s.kd = 2) (hcs : s.cuts = [num [] [1], num [1] [1]]) :
    Calls Tryz.prog 20 #[y.agg, .int .i64 2] w fun e w' => ∃ z : Vv, e = .returned (.tuple #[z.agg, .bool true]) ∧ VlX w'.heap.size w' (num [1] [2]) z ∧ Below w.heap.size w w' := by
  have hgo : ∀ v ∈ s.cuts, v.good = true := by rw [hcs]; intro v hv; simp only [List.mem_cons, List.not_mem_nil, or_false] at hv; rcases hv with rfl | rfl <;> decide
  have hok : s.okB = true := by unfold Sc.okB; rw [hcs, hkd]; decide
  have hp : s.poss 2 = true := by unfold Sc.poss; rw [hcs, hkd]; decide
  have hlen : s.cuts.length = 2 := by rw [hcs]; rfl
  obtain ⟨W1, hW1⟩ : ∃ W1, (w.alloc (.cells y.cells 48)).alloc (.cells vv0.cells 30) = W1 := ⟨_, rfl⟩
  have b1 : Below w.heap.size w W1 := by rw [← hW1]; exact ((Below.refl _ _).alloc (Nat.le_refl _) _).alloc (by simp) _
  have q1 : Blk W1 w.heap.size y.cells 48 := by rw [← hW1]; exact (Blk.new w _ _).alloc _
  have q2 : Blk W1 (w.heap.size + 1) vv0.cells 30 := by
    rw [← hW1]
    have := Blk.new (w.alloc (.cells y.cells 48)) vv0.cells 30
    rwa [World.size_alloc] at this
  have s1 : W1.heap.size = w.heap.size + 2 := by rw [← hW1]; simp
  obtain ⟨B, hB⟩ : ∃ B, w.heap.size = B := ⟨_, rfl⟩
  have HB := Lib.hid hB
  have HW := Lib.hid hW1
  rw [hB] at hK b1 q1 q2 s1 ⊢
  dsimp only [Vv.cells, vv0] at HW
  have hv := gvalid_any B s y W1 (hs.below b1 hK hK) (by omega) hgo (by omega)
  rw [hok] at hv
  have hpo : ∀ W, Below W1.heap.size W1 W → Calls Tryz.prog 64 #[.pointer (some ⟨B, 0, none⟩), .int .i64 2] W fun e w' => e = .returned (.bool true) ∧ Below W.heap.size W w' := fun W hb => by
    have h3 := hb.size
    have h2 := (q1.below hb q1.lt)
    have := gposs_any B B 0 y.c.val s 2 W ((hs.cuts.below b1 hK hK).below hb (by omega) (Nat.le_refl _)) (by omega) (by omega) (by rw [Nat.zero_add, ← hs.kd]; exact h2.at rfl) (by rw [Nat.zero_add]; exact h2.at rfl) (by omega) (okB_cuts hok)
    rw [hp] at this
    exact this.mono (by rintro e w' ⟨rfl, h⟩; exact ⟨rfl, h⟩)
  have HPO := Lib.hid hpo
  have hcx := hs.cuts.below b1 hK hK
  have hykd := hs.kd
  obtain ⟨g, hrow, hgs⟩ := hcx
  obtain ⟨cb, co, ccap, hse, _, hcm, hcb, hccl⟩ := hrow.pos (by omega)
  have h0 := hgs 0 (by omega)
  have h1 := hgs 1 (by omega)
  rw [hcs] at h0 h1
  have h0 : VlX B W1 (num [] [1]) (g 0) := h0
  have h1 : VlX B W1 (num [1] [1]) (g 1) := h1
  rw [hlen] at hccl hse
  have hrg : ∀ W, Below W1.heap.size W1 W → ∀ j, j < 2 → W.rangeAt cb (co + j * 6) (g j).cells.toList := fun W hb j hj => vv_range (cells_below hb (by omega) hccl) hj
  have hm : ∀ W, Below W1.heap.size W1 W → Calls Tryz.prog 67 #[(⟨2, false, (g 0).s1, false, (g 0).s2, 0⟩ : Vv).agg, (⟨2, false, (g 1).s1, false, (g 1).s2, 0⟩ : Vv).agg] W fun e w' => ∃ r t, e = .returned (.tuple #[(⟨2, false, r, false, t, 0⟩ : Vv).agg, .bool true]) ∧ Wd .u16 w'.heap.size w' r 1 ∧ Wd .u16 w'.heap.size w' t 2 ∧ Below W.heap.size W w' ∧ NewV W.heap.size r ∧ NewV W.heap.size t := fun W hb => by
    have hsz := hb.size
    have a1 := (h0.n.below hb (show B ≤ W1.heap.size by omega) (Nat.le_refl B)).wd (m := 1024) (g := false) (by simp [num]) (by decide)
    have a2 := (h0.d.below hb (show B ≤ W1.heap.size by omega) (Nat.le_refl B)).wd (m := 1024) (g := false) (by simp [num]) (by decide)
    have a3 := (h1.n.below hb (show B ≤ W1.heap.size by omega) (Nat.le_refl B)).wd (m := 1024) (g := false) (by simp [num]) (by decide)
    have a4 := (h1.d.below hb (show B ≤ W1.heap.size by omega) (Nat.le_refl B)).wd (m := 1024) (g := false) (by simp [num]) (by decide)
    exact gmid01_any B _ _ _ _ W a1 a2 a3 a4 (by omega)
  obtain ⟨a1, m1, f1, _⟩ := h0.n.form
  obtain ⟨a2, m2, f2, _⟩ := h0.d.form
  obtain ⟨a3, m3, f3, _⟩ := h1.n.form
  obtain ⟨a4, m4, f4, _⟩ := h1.d.form
  have g0e : g 0 = ⟨2, false, .slice a1 0 m1, false, .slice a2 1 m2, 0⟩ := by
    have e : g 0 = ⟨(g 0).kd, (g 0).b1, (g 0).s1, (g 0).b2, (g 0).s2, (g 0).i⟩ := rfl
    rw [e, h0.kd, h0.b1, h0.b2, h0.i, f1, f2]; rfl
  have g1e : g 1 = ⟨2, false, .slice a3 1 m3, false, .slice a4 1 m4, 0⟩ := by
    have e : g 1 = ⟨(g 1).kd, (g 1).b1, (g 1).s1, (g 1).b2, (g 1).s2, (g 1).i⟩ := rfl
    rw [e, h1.kd, h1.b1, h1.b2, h1.i, f3, f4]; rfl
  have hrg0 : ∀ W, Below W1.heap.size W1 W → W.rangeAt cb co (⟨2, false, .slice a1 0 m1, false, .slice a2 1 m2, 0⟩ : Vv).cells.toList := fun W hb => by
    have := hrg W hb 0 (by omega)
    rwa [g0e, Nat.zero_mul, Nat.add_zero] at this
  have hrg1 : ∀ W, Below W1.heap.size W1 W → W.rangeAt cb (co + 6) (⟨2, false, .slice a3 1 m3, false, .slice a4 1 m4, 0⟩ : Vv).cells.toList := fun W hb => by
    have := hrg W hb 1 (by omega)
    rwa [g1e, Nat.one_mul] at this
  rw [g0e, g1e] at hm
  have HRG0 := Lib.hid hrg0
  have HRG1 := Lib.hid hrg1
  have HM := Lib.hid hm
  obtain ⟨⟨yop, ynm, yk, yb3, ⟨y4, y4n, y4m⟩, yb5, ⟨y6, y6n, y6m⟩, yi7, ⟨y8, y8n, y8m⟩⟩, sk, ⟨ca, cn, cm⟩⟩ := y
  simp only [Sl.val, Value.slice.injEq] at hse
  obtain ⟨rfl, rfl, rfl⟩ := hse
  dsimp only at hykd
  rw [hkd] at hykd
  subst hykd
  have HQ1 := Lib.hid q1
  have HQ2 := Lib.hid q2
  obtain ⟨d0, d1, d2, d3, d4, d5, d6, d7, d8, d9, d10⟩ := q1.eleven
  clear hB hW1 hs hgo hok hp hpo hrow hgs hccl q1 q2 hrg hrg0 hrg1 hm g0e g1e h0 h1 f1 f2 f3 f4 hlen hcs hkd
  go_enter Tryz.func20, Tryz.ntmps20
  go_upto_region 1 with fail
  simp only [HB.out]
  rw [HW.out]
  go_wp2_with fail
  refine hv.mono ?_
  rintro e w2 ⟨rfl, hb2⟩
  clear hv d0 d1 d2 d3 d4 d5 d6 d7 d8 d9 d10
  go_wp2_with fail
  refine (HPO.out w2 hb2).mono ?_
  rintro e w3 ⟨rfl, hb3⟩
  have b3' : Below W1.heap.size W1 w3 := hb2.trans (hb3.mono hb2.size)
  have b3 : Below B w w3 := b1.trans (b3'.mono (by omega))
  have hs3 := b3'.size
  clear hb2 hb3
  have hq1 := HQ1.out.below b3' (by omega)
  have hq2' := HQ2.out.below b3' (by omega)
  have d9 := hq1.at (i := 9) (x := .int .u8 2) rfl
  have d10 := hq1.at (i := 10) (x := .slice (some ⟨cb, co, none⟩) 2 cm) rfl
  have l3 : B + 1 < w3.heap.size := by omega
  go_upto_region 12 with fail
  have HQ1' := Lib.hid hq1
  clear d9 d10
  refine region_plain (fun W' => Below w3.heap.size w3 W') [14, 15] (by kernel_rfl) ?_
  have qS : (fun W' => Below w3.heap.size w3 W') w3.drew := below_quiet (Below.refl _ _)
  have hSS : ∀ W', Below w3.heap.size w3 W' → Below W1.heap.size W1 W' := fun W' h => b3'.trans (h.mono hs3)
  refine wpAnyD_take (i := 0) (v := .pointer (some ⟨B, 10, none⟩)) rfl (by kernel_rfl) (by kernel_rfl) (by kernel_rfl) (by kernel_rfl) (by kernel_rfl) (fun _ _ _ h => h) (.inl ⟨by kernel_rfl, fun W' hS => by go_simp⟩) qS ?_
  refine wpAnyD_take (i := 1) (v := .slice (some ⟨cb, co, none⟩) 2 cm) rfl (by kernel_rfl) (by kernel_rfl) (by kernel_rfl) (by kernel_rfl) (by kernel_rfl) (fun _ _ _ h => h) (.inl ⟨by kernel_rfl, fun W' hS => by have d10 := (HQ1'.out.below hS (by omega)).at (i := 10) (x := .slice (some ⟨cb, co, none⟩) 2 cm) rfl; go_simp⟩) qS ?_
  refine wpAnyD_take (i := 2) (v := .int .i64 1) rfl (by kernel_rfl) (by kernel_rfl) (by kernel_rfl) (by kernel_rfl) (by kernel_rfl) (fun _ _ _ h => h) (.inl ⟨by kernel_rfl, fun W' hS => by go_simp⟩) qS ?_
  refine wpAnyD_take (i := 3) (v := .int .i64 0) rfl (by kernel_rfl) (by kernel_rfl) (by kernel_rfl) (by kernel_rfl) (by kernel_rfl) (fun _ _ _ h => h) (.inl ⟨by kernel_rfl, fun W' hS => by have hw0 : IntKind.i64.wrap 0 = 0 := IntWalk.i64_in _ (by omega); go_simp⟩) qS ?_
  refine wpAnyD_take (i := 4) (v := .pointer (some ⟨cb, co, none⟩)) rfl (by kernel_rfl) (by kernel_rfl) (by kernel_rfl) (by kernel_rfl) (by kernel_rfl) (fun _ _ _ h => h) (.inl ⟨by kernel_rfl, fun W' hS => by go_simp⟩) qS ?_
  refine wpAnyD_take (i := 5) (v := (⟨2, false, .slice a1 0 m1, false, .slice a2 1 m2, 0⟩ : Vv).agg) rfl (by kernel_rfl) (by kernel_rfl) (by kernel_rfl) (by kernel_rfl) (by kernel_rfl) (fun _ _ _ h => h) (yieldsIf_load_mid (by kernel_rfl) 30 (.tmp 62) rfl cb co rfl (⟨2, false, .slice a1 0 m1, false, .slice a2 1 m2, 0⟩ : Vv).cells.toList _ (fun W' hS => HRG0.out W' (hSS W' hS)) Tryz.underlying30 rfl infoValN) qS ?_
  refine wpAnyD_take (i := 6) (v := .pointer (some ⟨B, 10, none⟩)) rfl (by kernel_rfl) (by kernel_rfl) (by kernel_rfl) (by kernel_rfl) (by kernel_rfl) (fun _ _ _ h => h) (.inl ⟨by kernel_rfl, fun W' hS => by go_simp⟩) qS ?_
  refine wpAnyD_take (i := 7) (v := .slice (some ⟨cb, co, none⟩) 2 cm) rfl (by kernel_rfl) (by kernel_rfl) (by kernel_rfl) (by kernel_rfl) (by kernel_rfl) (fun _ _ _ h => h) (.inl ⟨by kernel_rfl, fun W' hS => by have d10 := (HQ1'.out.below hS (by omega)).at (i := 10) (x := .slice (some ⟨cb, co, none⟩) 2 cm) rfl; go_simp⟩) qS ?_
  refine wpAnyD_take (i := 8) (v := .int .i64 1) rfl (by kernel_rfl) (by kernel_rfl) (by kernel_rfl) (by kernel_rfl) (by kernel_rfl) (fun _ _ _ h => h) (.inl ⟨by kernel_rfl, fun W' hS => by go_simp⟩) qS ?_
  refine wpAnyD_take (i := 9) (v := .pointer (some ⟨cb, co + 6, none⟩)) rfl (by kernel_rfl) (by kernel_rfl) (by kernel_rfl) (by kernel_rfl) (by kernel_rfl) (fun _ _ _ h => h) (.inl ⟨by kernel_rfl, fun W' hS => by go_simp⟩) qS ?_
  refine wpAnyD_take (i := 10) (v := (⟨2, false, .slice a3 1 m3, false, .slice a4 1 m4, 0⟩ : Vv).agg) rfl (by kernel_rfl) (by kernel_rfl) (by kernel_rfl) (by kernel_rfl) (by kernel_rfl) (fun _ _ _ h => h) (yieldsIf_load_mid (by kernel_rfl) 30 (.tmp 67) rfl cb (co + 6) (by go_simp) (⟨2, false, .slice a3 1 m3, false, .slice a4 1 m4, 0⟩ : Vv).cells.toList _ (fun W' hS => HRG1.out W' (hSS W' hS)) Tryz.underlying30 rfl infoValN) qS ?_
  refine wpAnyD_one (i := 11) (by kernel_rfl) rfl (by kernel_rfl) ?_
  go_simp
  refine (HM.out _ (hSS _ qS)).mono ?_
  rintro e w4 ⟨r, t, rfl, hr, ht, hb4, hn1, hn2⟩
  have qS4 : Below w3.heap.size w3 w4 := qS.trans (hb4.mono qS.size)
  obtain ⟨ra, rm, rc, rfl⟩ := hr.form
  obtain ⟨ta, tm, tc, rfl⟩ := ht.form
  go_simp
  refine wpAnyD_take (i := 12) (v := (⟨2, false, .slice ra rm rc, false, .slice ta tm tc, 0⟩ : Vv).agg) rfl (by kernel_rfl) (by kernel_rfl) (by kernel_rfl) (by kernel_rfl) (by kernel_rfl) (fun _ _ _ h => h) (.inl ⟨by kernel_rfl, fun W' hS => by go_simp⟩) qS4 ?_
  refine wpAnyD_take (i := 13) (v := .bool true) rfl (by kernel_rfl) (by kernel_rfl) (by kernel_rfl) (by kernel_rfl) (by kernel_rfl) (fun _ _ _ h => h) (.inl ⟨by kernel_rfl, fun W' hS => by go_simp⟩) qS4 ?_
  have q4 := hq2'.below qS4 (by omega)
  obtain ⟨u0, u1, u2, u3, u4, u5⟩ := q4.six
  have v0' := q4.free 0
  have v1 := q4.free 1
  have v2 := q4.free 2
  have v3 := q4.free 3
  have v4 := q4.free 4
  have v5 := q4.free 5
  refine wpAnyD_one (i := 14) (by kernel_rfl) rfl (by kernel_rfl) ?_
  go_simp
  refine wpAnyD_one (i := 15) (by kernel_rfl) rfl (by kernel_rfl) ?_
  go_simp
  refine wpAnyD_done (by kernel_rfl) ?_ _
  have q5 := (((((q4.set (i := 0) (.int .u8 2)).set (i := 1) (.bool false)).set (i := 2) (.slice ra rm rc)).set (i := 3) (.bool false)).set (i := 4) (.slice ta tm tc)).set (i := 5) (.int .i64 0)
  obtain ⟨e0', e1, e2', e3', e4, e5⟩ := q5.six
  have b4 : Below B w w4 := b3.trans (qS4.mono (by omega))
  have hs4 := qS4.size
  clear u0 u1 u2 u3 u4 u5 v0' v1 v2 v3 v4 v5 q4 q5 hSS qS qS4 hb4
  go_wp2_with fail
  refine bodyPost_ret (v := .tuple #[(⟨2, false, .slice ra rm rc, false, .slice ta tm tc, 0⟩ : Vv).agg, .bool true]) (by simp [results, Tryz.results20, go_sem, e0', e1, e2', e3', e4, e5]) rfl ?_
  have key : ∀ (vv : Value) (n : Nat), Wd .u16 w4.heap.size w4 vv n → NewV w3.heap.size vv → Wd .u16 w4.heap.size ((((((w4.setCell ⟨B + 1, 0, none⟩ (.int .u8 2)).setCell ⟨B + 1, 1, none⟩ (.bool false)).setCell ⟨B + 1, 2, none⟩ (.slice ra rm rc)).setCell ⟨B + 1, 3, none⟩ (.bool false)).setCell ⟨B + 1, 4, none⟩ (.slice ta tm tc)).setCell ⟨B + 1, 5, none⟩ (.int .i64 0)) vv n := fun vv n h hn =>
    ((((((h.set (r := B + 1) (i := 0) (x := .int .u8 2) hn l3).set (r := B + 1) (i := 1) (x := .bool false) hn l3).set (r := B + 1) (i := 2) (x := .slice ra rm rc) hn l3).set (r := B + 1) (i := 3) (x := .bool false) hn l3).set (r := B + 1) (i := 4) (x := .slice ta tm tc) hn l3).set (r := B + 1) (i := 5) (x := .int .i64 0) hn l3)
  have k1 := (key _ 1 hr hn1).lm (by omega) (by omega)
  have k2 := (key _ 2 ht hn2).lm (by omega) (by omega)
  refine ⟨_, rfl, ⟨rfl, rfl, rfl, rfl, k1.below (Below.refl w4.heap.size _) (Nat.le_refl _) (by simp [World.setCell]), k2.below (Below.refl w4.heap.size _) (Nat.le_refl _) (by simp [World.setCell])⟩, (((((b4.setCell (p := ⟨B + 1, 0, none⟩) (by simp) _).setCell (p := ⟨B + 1, 1, none⟩) (by simp) _).setCell (p := ⟨B + 1, 2, none⟩) (by simp) _).setCell (p := ⟨B + 1, 3, none⟩) (by simp) _).setCell (p := ⟨B + 1, 4, none⟩) (by simp) _).setCell (p := ⟨B + 1, 5, none⟩) (by simp) _⟩
end Go.Proofs.YthooiobhlbnaoaaGreat
