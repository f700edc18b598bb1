/- Package bank: Read. No conditions beyond those stated. -/
import Derived.Test.YtaccaebdmndkiaaGreatDoorBClF
import Derived.Test.YtaccaebdmndkiaaGreatDoorBQuiet
import Derived.Test.YtaccaebdmndkiaaGreatDoorBWrite
import Derived.Laws.ResultCell
namespace Go.Proofs.YtaccaebdmndkiaaGreatDoor
open Go.RowKit
set_option linter.unusedVariables false

set_option maxRecDepth 100000 in
set_option maxHeartbeats 2000000 in
theorem readF_any (s : ByteArray) (w : World) (hs : s.size ≤ 2 ^ 40) (hT : Tabs w.heap.size w) (hM : MaxI w.heap.size w) :
    Calls Tryz.prog 20 #[.string s] w fun e w' => ∃ ov, e = .returned (.tuple #[.agg #[.int .i64 (readF s.data.toList).1.num, .int .i64 (readF s.data.toList).1.day, ov], .int .i64 (readF s.data.toList).2]) ∧ Ords w'.heap.size w' ov (readF s.data.toList).1.ods ∧ Below w.heap.size w w' := by
  have hb1 : Below w.heap.size w ((((w.alloc (.cells #[.int .i64 0, .int .i64 0, .slice none 0 0] 27)).alloc (.cells #[.int .i64 0, .int .i64 0, .slice none 0 0] 27)).alloc (.cells #[.int .i64 0] 3)).alloc (.cells #[.int .i64 0] 3)) := (((((Below.refl w.heap.size w).alloc (Nat.le_refl _) (.cells #[.int .i64 0, .int .i64 0, .slice none 0 0] 27)).alloc (by simp) (.cells #[.int .i64 0, .int .i64 0, .slice none 0 0] 27)).alloc (by simp <;> omega) (.cells #[.int .i64 0] 3)).alloc (by simp <;> omega) (.cells #[.int .i64 0] 3))
  have qr := (((Blk.new w #[.int .i64 0, .int .i64 0, .slice none 0 0] 27).alloc (.cells #[.int .i64 0, .int .i64 0, .slice none 0 0] 27)).alloc (.cells #[.int .i64 0] 3)).alloc (.cells #[.int .i64 0] 3)
  have qf := ((Blk.new (w.alloc (.cells #[.int .i64 0, .int .i64 0, .slice none 0 0] 27)) #[.int .i64 0, .int .i64 0, .slice none 0 0] 27).alloc (.cells #[.int .i64 0] 3)).alloc (.cells #[.int .i64 0] 3)
  have qc0 := (Blk.new ((w.alloc (.cells #[.int .i64 0, .int .i64 0, .slice none 0 0] 27)).alloc (.cells #[.int .i64 0, .int .i64 0, .slice none 0 0] 27)) #[.int .i64 0] 3).alloc (.cells #[.int .i64 0] 3)
  have qc1 := Blk.new (((w.alloc (.cells #[.int .i64 0, .int .i64 0, .slice none 0 0] 27)).alloc (.cells #[.int .i64 0, .int .i64 0, .slice none 0 0] 27)).alloc (.cells #[.int .i64 0] 3)) #[.int .i64 0] 3
  have hz1 : ((((w.alloc (.cells #[.int .i64 0, .int .i64 0, .slice none 0 0] 27)).alloc (.cells #[.int .i64 0, .int .i64 0, .slice none 0 0] 27)).alloc (.cells #[.int .i64 0] 3)).alloc (.cells #[.int .i64 0] 3)).heap.size = w.heap.size + 4 := by simp
  simp only [World.size_alloc] at qf qc0 qc1
  obtain ⟨W1, hW1⟩ : ∃ W1, (((w.alloc (.cells #[.int .i64 0, .int .i64 0, .slice none 0 0] 27)).alloc (.cells #[.int .i64 0, .int .i64 0, .slice none 0 0] 27)).alloc (.cells #[.int .i64 0] 3)).alloc (.cells #[.int .i64 0] 3) = W1 := ⟨_, rfl⟩
  rw [hW1] at hb1 qr qf qc0 qc1 hz1
  have HW1 := Lib.hid hW1
  clear hW1
  have hst0 : StF (w.heap.size + 1) (w.heap.size + 1) (w.heap.size + 2) (w.heap.size + 3) [] [] W1 := by
    refine ⟨_, qf, fun k hk => ?_, OwnK.nil _ _ _ _⟩
    have hk' : k < [(w.heap.size + 2), (w.heap.size + 3)].length := hk
    simp only [List.length_cons, List.length_nil] at hk'
    match k, hk' with
    | 0, _ => exact qc0
    | 1, _ => exact qc1
  obtain ⟨l, hl⟩ : ∃ l, s.data.toList = l := ⟨_, rfl⟩
  have hcall := parse_any (w.heap.size + 1) 47 40 42 #[.pointer (some ⟨w.heap.size + 1, 0, none⟩), .pointer (some ⟨w.heap.size + 2, 0, none⟩), .pointer (some ⟨w.heap.size + 3, 0, none⟩)] #[.pointer (some ⟨w.heap.size + 1, 0, none⟩)] (fun rows W => StF (w.heap.size + 1) (w.heap.size + 1) (w.heap.size + 2) (w.heap.size + 3) (rowF rows) rows.tail W) wPAY 4 wOrder 5 s W1
    (enters_of Tryz.func40 (by kernel_rfl) rfl) (enters_of Tryz.func42 (by kernel_rfl) rfl) (by decide) (by decide) (by decide)
    (fun rows A B h hs hb => h.sx hs (by omega) (by intro x hx; simp only [List.mem_cons, List.not_mem_nil, or_false] at hx; rcases hx with rfl | rfl <;> omega))
    (fun x W hx h hM hb => (headF_any (w.heap.size + 1) W1.heap.size (w.heap.size + 1) (w.heap.size + 2) (w.heap.size + 3) x W hx h hM ⟨by omega, by omega⟩ ⟨by omega, by omega⟩ ⟨by omega, by omega⟩ (by omega) (by omega) (by omega) hb.size (by omega)).mono fun e W' ⟨h1, h2, h3, h4⟩ => ⟨h1, h2, h3, h4⟩)
    (fun x rows W hx hne hl h hM hb => (itemF_any (w.heap.size + 1) W1.heap.size (w.heap.size + 1) (w.heap.size + 2) (w.heap.size + 3) (rowF rows) rows.tail x W hx h (by rw [List.length_tail]; omega) hM ⟨by omega, by omega⟩ ⟨by omega, by omega⟩ ⟨by omega, by omega⟩ (by omega) (by omega) (by omega) hb.size (by omega)).mono fun e W' ⟨h1, h2, h3, h4⟩ => ⟨h1, fun r hr => by
      have := h2 r hr
      cases rows with
      | nil => exact absurd rfl hne
      | cons a b => exact this, h3, h4⟩)
    (by omega) hst0 (hM.up hb1 (by omega)) (by have := hT.2.1; omega) ((hb1.cell (p := ⟨5, 15, none⟩) hT.2.1).trans hT.2.2) hs
  rw [hl] at hcall ⊢
  rw [show parseS wPAY 4 wOrder 5 l = pF l from rfl] at hcall
  have HQ := Lib.hid (show Blk W1 w.heap.size #[.int .i64 0, .int .i64 0, .slice none 0 0] 27 from qr)
  have hz1' := hz1
  have HZ := Lib.hid hz1'
  clear hz1' hst0 qf qc0 qc1 hl
  go_enter Tryz.func20, Tryz.ntmps20
  go_wp2_with fail
  rw [HW1.out]
  refine hcall.mono ?_
  rintro e w2 ⟨rfl, hst, hb2⟩
  clear hcall
  have hbw2 : Below w.heap.size w w2 := hb1.trans (hb2.mono (by omega))
  have qr2 := HQ.out.below hb2 (by omega)
  obtain ⟨r0, r1, r2⟩ := qr2.three
  have rf0 := qr2.free 0
  have rf1 := qr2.free 1
  have rf2 := qr2.free 2
  clear qr
  by_cases hpc : (pF l).2 = 0
  case neg =>
    have hrd : readF l = (Fi.z, (pF l).2) := by unfold readF; rw [if_pos hpc]
    obtain ⟨pc, hpce⟩ : ∃ pc, (pF l).2 = pc := ⟨_, rfl⟩
    rw [hpce] at hst hpc hrd ⊢
    have HRD := Lib.hid hrd
    have HPC := Lib.hid hpce
    have hne : (pc != 0) = true := by rw [bne_iff_ne]; exact hpc
    clear hrd hpce hst hpc hz1 HZ
    go_wp2_with fail
    obtain ⟨W9, hW9⟩ : ∃ W9, (((w2.setCell ⟨w.heap.size, 0, none⟩ (.int .i64 0)).setCell ⟨w.heap.size, 1, none⟩ (.int .i64 0)).setCell ⟨w.heap.size, 2, none⟩ (.slice none 0 0)) = W9 := ⟨_, rfl⟩
    have q9 := qr2.set3 (.int .i64 0) (.int .i64 0) (.slice none 0 0)
    have hb9 := hbw2.trans (below_set3 (w := w2) (Nat.le_refl w.heap.size) (.int .i64 0) (.int .i64 0) (.slice none 0 0))
    rw [hW9] at q9 hb9 ⊢
    clear hW9
    obtain ⟨z0, z1, z2⟩ := q9.three
    refine bodyPost_ret (v := .tuple #[.agg #[.int .i64 0, .int .i64 0, .slice none 0 0], .int .i64 pc]) (by simp [results, Tryz.results20, go_sem, z0, z1, z2]) rfl ⟨.slice none 0 0, ?_, ?_, hb9⟩
    · rw [HRD.out]; rfl
    · rw [HRD.out]; exact Recs.nil none 0 (by simp [maxLen]) (fun _ => rfl)
  case pos =>
    obtain ⟨rows, hrows⟩ : ∃ rows, (pF l).1 = rows := ⟨_, rfl⟩
    have hrd : readF l = if okF (fiOf rows) = true ∧ (rowF rows)[2]?.getD 0 = ((fiOf rows).ods.length : Int) ∧ (rowF rows)[3]?.getD 0 = tot (fiOf rows).ods then (fiOf rows, 0) else (Fi.z, 362) := by
      unfold readF; rw [if_neg (by rw [hpc]; simp), hrows]
    have hst' := hst hpc
    rw [hrows] at hst'
    rw [hpc]
    have HRD0 := Lib.hid hrd
    clear hst hrows hrd hpc
    obtain ⟨ov, f1, f2, f3⟩ := hst'
    have g0 := f2 0 (by simp)
    have g1 := f2 1 (by simp)
    have hov : Ords w2.heap.size w2 ov (rows.tail.map odOf) := ords_of_rows f3.recs
    obtain ⟨oa, oc, rfl⟩ := f3.form
    have hlm : (rows.tail.map odOf).length = rows.tail.length := by simp
    have HLM := Lib.hid hlm
    clear hlm f2
    obtain ⟨num, hnum⟩ : ∃ x, (rowF rows)[0]?.getD 0 = x := ⟨_, rfl⟩
    obtain ⟨day, hday⟩ : ∃ x, (rowF rows)[1]?.getD 0 = x := ⟨_, rfl⟩
    obtain ⟨cnt, hcnt⟩ : ∃ x, (rowF rows)[2]?.getD 0 = x := ⟨_, rfl⟩
    obtain ⟨sm, hsm⟩ : ∃ x, (rowF rows)[3]?.getD 0 = x := ⟨_, rfl⟩
    obtain ⟨od, hod⟩ : ∃ x, rows.tail.map odOf = x := ⟨_, rfl⟩
    obtain ⟨n, hn⟩ : ∃ n, rows.tail.length = n := ⟨_, rfl⟩
    have hfi : fiOf rows = ⟨num, day, od⟩ := by rw [← hnum, ← hday, ← hod]; rfl
    have HFI := Lib.hid hfi
    have HL2 : Hid (od.length = n) := Lib.hid (by rw [← hod, List.length_map, hn])
    have HCN := Lib.hid hcnt
    have HSU := Lib.hid hsm
    rw [hnum, hday] at f1
    dsimp only [List.getElem?_cons_zero, List.getElem?_cons_succ, Option.getD_some, Nat.zero_add, Nat.reduceAdd] at g0 g1
    rw [hcnt] at g0
    rw [hsm] at g1
    rw [hod] at hov
    rw [hn] at f1 f3 hov
    obtain ⟨d0, d1, d2⟩ := f1.three
    have k0 : w2.cell? _ = _ := g0.at (i := 0) rfl
    have k1 : w2.cell? _ = _ := g1.at (i := 0) rfl
    have HOD := Lib.hid hod
    clear hnum hday hcnt hod hn hfi hsm
    have hfl : w.heap.size + 1 < w2.heap.size := f1.lt
    have hcl : w.heap.size + 2 < w2.heap.size := g0.lt
    have hsl3 : w.heap.size + 3 < w2.heap.size := g1.lt
    have hcv0 := fun W' (hS : Below w2.heap.size w2 W') => valid_any w2.heap.size (.slice oa n oc) num day od W' (Recs.below hov hS (Nat.le_refl _) (Nat.le_refl _)) hS.size
    obtain ⟨x, hx⟩ : ∃ x, okF ⟨num, day, od⟩ = x := ⟨_, rfl⟩
    have hcv : ∀ W', Below w2.heap.size w2 W' → Calls Tryz.prog 34 #[.agg #[.int .i64 num, .int .i64 day, .slice oa n oc]] W' fun e W'' => e = .returned (.bool x) ∧ Below w2.heap.size w2 W'' := fun W' hS => (hcv0 W' hS).mono fun e W'' ⟨h1, h2⟩ => ⟨h1.trans (by rw [hx]), hS.trans (h2.mono hS.size)⟩
    have HX := Lib.hid hx
    clear hx hcv0
    cases x with
    | false =>
      · have hrd : readF l = (Fi.z, 362) := by
          rw [HRD0.out, HFI.out, if_neg]
          rintro ⟨h1, h2, h3⟩
          rw [HX.out] at h1; cases h1
        have HRD := Lib.hid hrd
        clear hrd
        go_wp2_with fail
        refine wp_onlyN ?_
        refine region_WQ (fun W' => Below w2.heap.size w2 W') (by kernel_rfl) (by kernel_rfl) ⟨rfl, rfl, rfl, Nat.le_refl _, fun _ _ => rfl⟩ ?_
        refine WQ.take (.agg #[.int .i64 num, .int .i64 day, .slice oa n oc]) (.inl ⟨by kernel_rfl, fun W' hS => by have d0' := (hS.cell (p := ⟨w.heap.size + 1, 0, none⟩) hfl).trans d0; have d1' := (hS.cell (p := ⟨w.heap.size + 1, 1, none⟩) hfl).trans d1; have d2' := (hS.cell (p := ⟨w.heap.size + 1, 2, none⟩) hfl).trans d2; go_simp <;> exact hS⟩) ?_
        refine WQ.take (.bool false) (.inl ⟨by kernel_rfl, fun W' hS => by go_simp <;> exact (hcv W' hS).mono fun e W'' ⟨h1, h2⟩ => ⟨h1, h2⟩⟩) ?_
        refine WQ.take (.bool true) (.inl ⟨by kernel_rfl, fun W' hS => by go_simp <;> exact hS⟩) ?_
        refine WQ.take (.bool true) (.inl ⟨by kernel_rfl, fun W' hS => by go_simp <;> exact hS⟩) ?_
        refine WQ.take undef (.inr ⟨by kernel_rfl, rfl⟩) ?_
        refine WQ.take undef (.inr ⟨by kernel_rfl, rfl⟩) ?_
        refine WQ.take undef (.inr ⟨by kernel_rfl, rfl⟩) ?_
        refine WQ.take undef (.inr ⟨by kernel_rfl, rfl⟩) ?_
        refine WQ.take undef (.inr ⟨by kernel_rfl, rfl⟩) ?_
        refine WQ.take (.bool true) (.inl ⟨by kernel_rfl, fun W' hS => by go_simp <;> exact hS⟩) ?_
        refine WQ.take (.bool true) (.inl ⟨by kernel_rfl, fun W' hS => by go_simp <;> exact hS⟩) ?_
        refine WQ.take undef (.inr ⟨by kernel_rfl, rfl⟩) ?_
        refine WQ.take undef (.inr ⟨by kernel_rfl, rfl⟩) ?_
        refine WQ.take undef (.inr ⟨by kernel_rfl, rfl⟩) ?_
        refine WQ.take undef (.inr ⟨by kernel_rfl, rfl⟩) ?_
        refine WQ.take (.bool true) (.inl ⟨by kernel_rfl, fun W' hS => by go_simp <;> exact hS⟩) ?_
        refine WQ.nil ?_
        intro w3 hb3
        refine onlyN_mk ?_
        go_simp
        clear d0 d1 d2 k0 k1 r0 r1 r2 rf0 rf1 rf2
        obtain ⟨d0, d1, d2⟩ := (f1.below hb3 f1.lt).three
        have k0 : w3.cell? _ = _ := (g0.below hb3 g0.lt).at (i := 0) rfl
        have qr3 := qr2.below hb3 qr2.lt
        obtain ⟨r0, r1, r2⟩ := qr3.three
        have rf0 := qr3.free 0
        have rf1 := qr3.free 1
        have rf2 := qr3.free 2
        have hb9' := hbw2.trans (hb3.mono hbw2.size)
        go_wp2_with fail
        obtain ⟨W9, hW9⟩ : ∃ W9, (((w3.setCell ⟨w.heap.size, 0, none⟩ (.int .i64 0)).setCell ⟨w.heap.size, 1, none⟩ (.int .i64 0)).setCell ⟨w.heap.size, 2, none⟩ (.slice none 0 0)) = W9 := ⟨_, rfl⟩
        have q9 := qr3.set3 (.int .i64 0) (.int .i64 0) (.slice none 0 0)
        have hb9 := hb9'.trans (below_set3 (w := w3) (Nat.le_refl w.heap.size) (.int .i64 0) (.int .i64 0) (.slice none 0 0))
        rw [hW9] at q9 hb9 ⊢
        clear hW9
        obtain ⟨z0, z1, z2⟩ := q9.three
        refine bodyPost_ret (v := .tuple #[.agg #[.int .i64 0, .int .i64 0, .slice none 0 0], .int .i64 362]) (by simp [results, Tryz.results20, go_sem, z0, z1, z2]) rfl ⟨.slice none 0 0, ?_, ?_, hb9⟩
        · rw [HRD.out]; rfl
        · rw [HRD.out]; exact Recs.nil none 0 (by simp [maxLen]) (fun _ => rfl)
    | true =>
      obtain ⟨tt, htt⟩ : ∃ tt, tot od = tt := ⟨_, rfl⟩
      have hpt := okF_parts HX.out
      have hct : ∀ W', Below w2.heap.size w2 W' → Calls Tryz.prog 36 #[.agg #[.int .i64 num, .int .i64 day, .slice oa n oc]] W' fun e W'' => e = .returned (.int .i64 tt) ∧ Below w2.heap.size w2 W'' := fun W' hS => (sum_any w2.heap.size num day (.slice oa n oc) od W' (Recs.below hov hS (Nat.le_refl _) (Nat.le_refl _)) hS.size (okTo_all hpt.2.2.2.1) hpt.2.2.1).mono fun e W'' ⟨h1, h2⟩ => ⟨h1.trans (by rw [htt]), hS.trans (h2.mono hS.size)⟩
      have HTT := Lib.hid htt
      clear htt hpt
      by_cases hcn : cnt = (n : Int)
      case neg =>
        have hne : (cnt != (n : Int)) = true := by rw [bne_iff_ne]; exact hcn
        have HCC := Lib.hid hcn
        clear hcn
        · have hrd : readF l = (Fi.z, 362) := by
            rw [HRD0.out, HFI.out, if_neg]
            rintro ⟨h1, h2, h3⟩
            rw [HCN.out] at h2
            exact HCC.out (h2.trans (by show ((od.length : Nat) : Int) = _; rw [HL2.out]))
          have HRD := Lib.hid hrd
          clear hrd
          go_wp2_with fail
          refine wp_onlyN ?_
          refine region_WQ (fun W' => Below w2.heap.size w2 W') (by kernel_rfl) (by kernel_rfl) ⟨rfl, rfl, rfl, Nat.le_refl _, fun _ _ => rfl⟩ ?_
          refine WQ.take (.agg #[.int .i64 num, .int .i64 day, .slice oa n oc]) (.inl ⟨by kernel_rfl, fun W' hS => by have d0' := (hS.cell (p := ⟨w.heap.size + 1, 0, none⟩) hfl).trans d0; have d1' := (hS.cell (p := ⟨w.heap.size + 1, 1, none⟩) hfl).trans d1; have d2' := (hS.cell (p := ⟨w.heap.size + 1, 2, none⟩) hfl).trans d2; go_simp <;> exact hS⟩) ?_
          refine WQ.take (.bool true) (.inl ⟨by kernel_rfl, fun W' hS => by go_simp <;> exact (hcv W' hS).mono fun e W'' ⟨h1, h2⟩ => ⟨h1, h2⟩⟩) ?_
          refine WQ.take (.bool false) (.inl ⟨by kernel_rfl, fun W' hS => by go_simp <;> exact hS⟩) ?_
          refine WQ.take (.bool false) (.inl ⟨by kernel_rfl, fun W' hS => by go_simp <;> exact hS⟩) ?_
          refine WQ.take (.int .i64 cnt) (.inl ⟨by kernel_rfl, fun W' hS => by have k0' := (hS.cell (p := ⟨w.heap.size + 2, 0, none⟩) hcl).trans k0; go_simp <;> exact hS⟩) ?_
          refine WQ.take (.pointer (some ⟨w.heap.size + 1, 2, none⟩)) (.inl ⟨by kernel_rfl, fun W' hS => by go_simp <;> exact hS⟩) ?_
          refine WQ.take (.slice oa n oc) (.inl ⟨by kernel_rfl, fun W' hS => by have d2' := (hS.cell (p := ⟨w.heap.size + 1, 2, none⟩) hfl).trans d2; go_simp <;> exact hS⟩) ?_
          refine WQ.take (.int .i64 n) (.inl ⟨by kernel_rfl, fun W' hS => by go_simp <;> exact hS⟩) ?_
          refine WQ.take (.bool true) (.inl ⟨by kernel_rfl, fun W' hS => by go_simp <;> exact hS⟩) ?_
          refine WQ.take (.bool true) (.inl ⟨by kernel_rfl, fun W' hS => by go_simp <;> exact hS⟩) ?_
          refine WQ.take (.bool true) (.inl ⟨by kernel_rfl, fun W' hS => by go_simp <;> exact hS⟩) ?_
          refine WQ.take undef (.inr ⟨by kernel_rfl, rfl⟩) ?_
          refine WQ.take undef (.inr ⟨by kernel_rfl, rfl⟩) ?_
          refine WQ.take undef (.inr ⟨by kernel_rfl, rfl⟩) ?_
          refine WQ.take undef (.inr ⟨by kernel_rfl, rfl⟩) ?_
          refine WQ.take (.bool true) (.inl ⟨by kernel_rfl, fun W' hS => by go_simp <;> exact hS⟩) ?_
          refine WQ.nil ?_
          intro w3 hb3
          refine onlyN_mk ?_
          go_simp
          clear d0 d1 d2 k0 k1 r0 r1 r2 rf0 rf1 rf2
          obtain ⟨d0, d1, d2⟩ := (f1.below hb3 f1.lt).three
          have k0 : w3.cell? _ = _ := (g0.below hb3 g0.lt).at (i := 0) rfl
          have qr3 := qr2.below hb3 qr2.lt
          obtain ⟨r0, r1, r2⟩ := qr3.three
          have rf0 := qr3.free 0
          have rf1 := qr3.free 1
          have rf2 := qr3.free 2
          have hb9' := hbw2.trans (hb3.mono hbw2.size)
          go_wp2_with fail
          obtain ⟨W9, hW9⟩ : ∃ W9, (((w3.setCell ⟨w.heap.size, 0, none⟩ (.int .i64 0)).setCell ⟨w.heap.size, 1, none⟩ (.int .i64 0)).setCell ⟨w.heap.size, 2, none⟩ (.slice none 0 0)) = W9 := ⟨_, rfl⟩
          have q9 := qr3.set3 (.int .i64 0) (.int .i64 0) (.slice none 0 0)
          have hb9 := hb9'.trans (below_set3 (w := w3) (Nat.le_refl w.heap.size) (.int .i64 0) (.int .i64 0) (.slice none 0 0))
          rw [hW9] at q9 hb9 ⊢
          clear hW9
          obtain ⟨z0, z1, z2⟩ := q9.three
          refine bodyPost_ret (v := .tuple #[.agg #[.int .i64 0, .int .i64 0, .slice none 0 0], .int .i64 362]) (by simp [results, Tryz.results20, go_sem, z0, z1, z2]) rfl ⟨.slice none 0 0, ?_, ?_, hb9⟩
          · rw [HRD.out]; rfl
          · rw [HRD.out]; exact Recs.nil none 0 (by simp [maxLen]) (fun _ => rfl)
      case pos =>
        have hne : (cnt != (n : Int)) = false := by rw [bne_eq_false_iff_eq]; exact hcn
        have HCC := Lib.hid hcn
        clear hcn
        by_cases hsq : sm = tt
        case neg =>
          have hne2 : (sm != tt) = true := by rw [bne_iff_ne]; exact hsq
          have HSQ := Lib.hid hsq
          clear hsq
          · have hrd : readF l = (Fi.z, 362) := by
              rw [HRD0.out, HFI.out, if_neg]
              rintro ⟨h1, h2, h3⟩
              rw [HSU.out] at h3
              exact HSQ.out (h3.trans HTT.out)
            have HRD := Lib.hid hrd
            clear hrd
            go_wp2_with fail
            refine wp_onlyN ?_
            refine region_WQ (fun W' => Below w2.heap.size w2 W') (by kernel_rfl) (by kernel_rfl) ⟨rfl, rfl, rfl, Nat.le_refl _, fun _ _ => rfl⟩ ?_
            refine WQ.take (.agg #[.int .i64 num, .int .i64 day, .slice oa n oc]) (.inl ⟨by kernel_rfl, fun W' hS => by have d0' := (hS.cell (p := ⟨w.heap.size + 1, 0, none⟩) hfl).trans d0; have d1' := (hS.cell (p := ⟨w.heap.size + 1, 1, none⟩) hfl).trans d1; have d2' := (hS.cell (p := ⟨w.heap.size + 1, 2, none⟩) hfl).trans d2; go_simp <;> exact hS⟩) ?_
            refine WQ.take (.bool true) (.inl ⟨by kernel_rfl, fun W' hS => by go_simp <;> exact (hcv W' hS).mono fun e W'' ⟨h1, h2⟩ => ⟨h1, h2⟩⟩) ?_
            refine WQ.take (.bool false) (.inl ⟨by kernel_rfl, fun W' hS => by go_simp <;> exact hS⟩) ?_
            refine WQ.take (.bool false) (.inl ⟨by kernel_rfl, fun W' hS => by go_simp <;> exact hS⟩) ?_
            refine WQ.take (.int .i64 cnt) (.inl ⟨by kernel_rfl, fun W' hS => by have k0' := (hS.cell (p := ⟨w.heap.size + 2, 0, none⟩) hcl).trans k0; go_simp <;> exact hS⟩) ?_
            refine WQ.take (.pointer (some ⟨w.heap.size + 1, 2, none⟩)) (.inl ⟨by kernel_rfl, fun W' hS => by go_simp <;> exact hS⟩) ?_
            refine WQ.take (.slice oa n oc) (.inl ⟨by kernel_rfl, fun W' hS => by have d2' := (hS.cell (p := ⟨w.heap.size + 1, 2, none⟩) hfl).trans d2; go_simp <;> exact hS⟩) ?_
            refine WQ.take (.int .i64 n) (.inl ⟨by kernel_rfl, fun W' hS => by go_simp <;> exact hS⟩) ?_
            refine WQ.take (.bool false) (.inl ⟨by kernel_rfl, fun W' hS => by go_simp <;> exact hS⟩) ?_
            refine WQ.take (.bool false) (.inl ⟨by kernel_rfl, fun W' hS => by go_simp <;> exact hS⟩) ?_
            refine WQ.take (.bool false) (.inl ⟨by kernel_rfl, fun W' hS => by go_simp <;> exact hS⟩) ?_
            refine WQ.take (.int .i64 sm) (.inl ⟨by kernel_rfl, fun W' hS => by have k1' := (hS.cell (p := ⟨w.heap.size + 3, 0, none⟩) hsl3).trans k1; go_simp <;> exact hS⟩) ?_
            refine WQ.take (.agg #[.int .i64 num, .int .i64 day, .slice oa n oc]) (.inl ⟨by kernel_rfl, fun W' hS => by have d0' := (hS.cell (p := ⟨w.heap.size + 1, 0, none⟩) hfl).trans d0; have d1' := (hS.cell (p := ⟨w.heap.size + 1, 1, none⟩) hfl).trans d1; have d2' := (hS.cell (p := ⟨w.heap.size + 1, 2, none⟩) hfl).trans d2; go_simp <;> exact hS⟩) ?_
            refine WQ.take (.int .i64 tt) (.inl ⟨by kernel_rfl, fun W' hS => by go_simp <;> exact (hct W' hS).mono fun e W'' ⟨h1, h2⟩ => ⟨h1, h2⟩⟩) ?_
            refine WQ.take (.bool true) (.inl ⟨by kernel_rfl, fun W' hS => by go_simp <;> exact hS⟩) ?_
            refine WQ.take (.bool true) (.inl ⟨by kernel_rfl, fun W' hS => by go_simp <;> exact hS⟩) ?_
            refine WQ.nil ?_
            intro w3 hb3
            refine onlyN_mk ?_
            go_simp
            clear d0 d1 d2 k0 k1 r0 r1 r2 rf0 rf1 rf2
            obtain ⟨d0, d1, d2⟩ := (f1.below hb3 f1.lt).three
            have k0 : w3.cell? _ = _ := (g0.below hb3 g0.lt).at (i := 0) rfl
            have qr3 := qr2.below hb3 qr2.lt
            obtain ⟨r0, r1, r2⟩ := qr3.three
            have rf0 := qr3.free 0
            have rf1 := qr3.free 1
            have rf2 := qr3.free 2
            have hb9' := hbw2.trans (hb3.mono hbw2.size)
            go_wp2_with fail
            obtain ⟨W9, hW9⟩ : ∃ W9, (((w3.setCell ⟨w.heap.size, 0, none⟩ (.int .i64 0)).setCell ⟨w.heap.size, 1, none⟩ (.int .i64 0)).setCell ⟨w.heap.size, 2, none⟩ (.slice none 0 0)) = W9 := ⟨_, rfl⟩
            have q9 := qr3.set3 (.int .i64 0) (.int .i64 0) (.slice none 0 0)
            have hb9 := hb9'.trans (below_set3 (w := w3) (Nat.le_refl w.heap.size) (.int .i64 0) (.int .i64 0) (.slice none 0 0))
            rw [hW9] at q9 hb9 ⊢
            clear hW9
            obtain ⟨z0, z1, z2⟩ := q9.three
            refine bodyPost_ret (v := .tuple #[.agg #[.int .i64 0, .int .i64 0, .slice none 0 0], .int .i64 362]) (by simp [results, Tryz.results20, go_sem, z0, z1, z2]) rfl ⟨.slice none 0 0, ?_, ?_, hb9⟩
            · rw [HRD.out]; rfl
            · rw [HRD.out]; exact Recs.nil none 0 (by simp [maxLen]) (fun _ => rfl)
        case pos =>
          have hne2 : (sm != tt) = false := by rw [bne_eq_false_iff_eq]; exact hsq
          have HSQ := Lib.hid hsq
          clear hsq
          · have hrd : readF l = (⟨num, day, od⟩, 0) := by
              rw [HRD0.out, HFI.out, if_pos]
              refine ⟨HX.out, ?_, ?_⟩
              · rw [HCN.out, HCC.out]; show _ = ((od.length : Nat) : Int); rw [HL2.out]
              · rw [HSU.out, HSQ.out]; exact HTT.out.symm
            have HRD := Lib.hid hrd
            clear hrd
            go_wp2_with fail
            refine wp_onlyN ?_
            refine region_WQ (fun W' => Below w2.heap.size w2 W') (by kernel_rfl) (by kernel_rfl) ⟨rfl, rfl, rfl, Nat.le_refl _, fun _ _ => rfl⟩ ?_
            refine WQ.take (.agg #[.int .i64 num, .int .i64 day, .slice oa n oc]) (.inl ⟨by kernel_rfl, fun W' hS => by have d0' := (hS.cell (p := ⟨w.heap.size + 1, 0, none⟩) hfl).trans d0; have d1' := (hS.cell (p := ⟨w.heap.size + 1, 1, none⟩) hfl).trans d1; have d2' := (hS.cell (p := ⟨w.heap.size + 1, 2, none⟩) hfl).trans d2; go_simp <;> exact hS⟩) ?_
            refine WQ.take (.bool true) (.inl ⟨by kernel_rfl, fun W' hS => by go_simp <;> exact (hcv W' hS).mono fun e W'' ⟨h1, h2⟩ => ⟨h1, h2⟩⟩) ?_
            refine WQ.take (.bool false) (.inl ⟨by kernel_rfl, fun W' hS => by go_simp <;> exact hS⟩) ?_
            refine WQ.take (.bool false) (.inl ⟨by kernel_rfl, fun W' hS => by go_simp <;> exact hS⟩) ?_
            refine WQ.take (.int .i64 cnt) (.inl ⟨by kernel_rfl, fun W' hS => by have k0' := (hS.cell (p := ⟨w.heap.size + 2, 0, none⟩) hcl).trans k0; go_simp <;> exact hS⟩) ?_
            refine WQ.take (.pointer (some ⟨w.heap.size + 1, 2, none⟩)) (.inl ⟨by kernel_rfl, fun W' hS => by go_simp <;> exact hS⟩) ?_
            refine WQ.take (.slice oa n oc) (.inl ⟨by kernel_rfl, fun W' hS => by have d2' := (hS.cell (p := ⟨w.heap.size + 1, 2, none⟩) hfl).trans d2; go_simp <;> exact hS⟩) ?_
            refine WQ.take (.int .i64 n) (.inl ⟨by kernel_rfl, fun W' hS => by go_simp <;> exact hS⟩) ?_
            refine WQ.take (.bool false) (.inl ⟨by kernel_rfl, fun W' hS => by go_simp <;> exact hS⟩) ?_
            refine WQ.take (.bool false) (.inl ⟨by kernel_rfl, fun W' hS => by go_simp <;> exact hS⟩) ?_
            refine WQ.take (.bool false) (.inl ⟨by kernel_rfl, fun W' hS => by go_simp <;> exact hS⟩) ?_
            refine WQ.take (.int .i64 sm) (.inl ⟨by kernel_rfl, fun W' hS => by have k1' := (hS.cell (p := ⟨w.heap.size + 3, 0, none⟩) hsl3).trans k1; go_simp <;> exact hS⟩) ?_
            refine WQ.take (.agg #[.int .i64 num, .int .i64 day, .slice oa n oc]) (.inl ⟨by kernel_rfl, fun W' hS => by have d0' := (hS.cell (p := ⟨w.heap.size + 1, 0, none⟩) hfl).trans d0; have d1' := (hS.cell (p := ⟨w.heap.size + 1, 1, none⟩) hfl).trans d1; have d2' := (hS.cell (p := ⟨w.heap.size + 1, 2, none⟩) hfl).trans d2; go_simp <;> exact hS⟩) ?_
            refine WQ.take (.int .i64 tt) (.inl ⟨by kernel_rfl, fun W' hS => by go_simp <;> exact (hct W' hS).mono fun e W'' ⟨h1, h2⟩ => ⟨h1, h2⟩⟩) ?_
            refine WQ.take (.bool false) (.inl ⟨by kernel_rfl, fun W' hS => by go_simp <;> exact hS⟩) ?_
            refine WQ.take (.bool false) (.inl ⟨by kernel_rfl, fun W' hS => by go_simp <;> exact hS⟩) ?_
            refine WQ.nil ?_
            intro w3 hb3
            refine onlyN_mk ?_
            go_simp
            clear d0 d1 d2 k0 k1 r0 r1 r2 rf0 rf1 rf2
            obtain ⟨d0, d1, d2⟩ := (f1.below hb3 f1.lt).three
            have k0 : w3.cell? _ = _ := (g0.below hb3 g0.lt).at (i := 0) rfl
            have qr3 := qr2.below hb3 qr2.lt
            obtain ⟨r0, r1, r2⟩ := qr3.three
            have rf0 := qr3.free 0
            have rf1 := qr3.free 1
            have rf2 := qr3.free 2
            have hb9' := hbw2.trans (hb3.mono hbw2.size)
            go_wp2_with fail
            obtain ⟨W9, hW9⟩ : ∃ W9, (((w3.setCell ⟨w.heap.size, 0, none⟩ (.int .i64 num)).setCell ⟨w.heap.size, 1, none⟩ (.int .i64 day)).setCell ⟨w.heap.size, 2, none⟩ (.slice oa n oc)) = W9 := ⟨_, rfl⟩
            have q9 := qr3.set3 (.int .i64 num) (.int .i64 day) (.slice oa n oc)
            have hO9 := (f3.old hb3).set3 qr3 neF (.int .i64 num) (.int .i64 day) (.slice oa n oc)
            have hb9 := hb9'.trans (below_set3 (w := w3) (Nat.le_refl w.heap.size) (.int .i64 num) (.int .i64 day) (.slice oa n oc))
            rw [hW9] at q9 hb9 hO9 ⊢
            clear hW9
            obtain ⟨z0, z1, z2⟩ := q9.three
            refine bodyPost_ret (v := .tuple #[.agg #[.int .i64 num, .int .i64 day, .slice oa n oc], .int .i64 0]) (by simp [results, Tryz.results20, go_sem, z0, z1, z2]) rfl ⟨.slice oa n oc, ?_, ?_, hb9⟩
            · rw [HRD.out]
            · rw [HRD.out]
              have h9 := ords_of_rows hO9.recs
              rw [HOD.out] at h9
              exact h9
end Go.Proofs.YtaccaebdmndkiaaGreatDoor
