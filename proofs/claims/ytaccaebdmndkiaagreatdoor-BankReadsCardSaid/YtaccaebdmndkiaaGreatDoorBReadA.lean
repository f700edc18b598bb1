/- Package bank: ReadAnswer. No conditions beyond those stated. -/
import Derived.Test.YtaccaebdmndkiaaGreatDoorBClA
import Derived.Test.YtaccaebdmndkiaaGreatDoorBQuiet
import Derived.Test.YtaccaebdmndkiaaGreatDoorBWrite
import Derived.Laws.ResultCell
namespace Go.Proofs.YtaccaebdmndkiaaGreatDoor
open Go.RowKit
set_option linter.unusedVariables false

set_option maxRecDepth 100000 in
set_option maxHeartbeats 2000000 in
theorem readA_any (s : ByteArray) (w : World) (hs : s.size ≤ 2 ^ 40) (hT : Tabs w.heap.size w) (hM : MaxI w.heap.size w) :
    Calls Tryz.prog 22 #[.string s] w fun e w' => ∃ ov, e = .returned (.tuple #[.agg #[.int .i64 (readA s.data.toList).1.num, .int .i64 (readA s.data.toList).1.day, ov], .int .i64 (readA s.data.toList).2]) ∧ Rets w'.heap.size w' ov (readA s.data.toList).1.rts ∧ Below w.heap.size w w' := by
  have hb1 : Below w.heap.size w (((w.alloc (.cells #[.int .i64 0, .int .i64 0, .slice none 0 0] 30)).alloc (.cells #[.int .i64 0, .int .i64 0, .slice none 0 0] 30)).alloc (.cells #[.int .i64 0] 3)) := ((((Below.refl w.heap.size w).alloc (Nat.le_refl _) (.cells #[.int .i64 0, .int .i64 0, .slice none 0 0] 30)).alloc (by simp) (.cells #[.int .i64 0, .int .i64 0, .slice none 0 0] 30)).alloc (by simp <;> omega) (.cells #[.int .i64 0] 3))
  have qr := ((Blk.new w #[.int .i64 0, .int .i64 0, .slice none 0 0] 30).alloc (.cells #[.int .i64 0, .int .i64 0, .slice none 0 0] 30)).alloc (.cells #[.int .i64 0] 3)
  have qf := (Blk.new (w.alloc (.cells #[.int .i64 0, .int .i64 0, .slice none 0 0] 30)) #[.int .i64 0, .int .i64 0, .slice none 0 0] 30).alloc (.cells #[.int .i64 0] 3)
  have qc0 := Blk.new ((w.alloc (.cells #[.int .i64 0, .int .i64 0, .slice none 0 0] 30)).alloc (.cells #[.int .i64 0, .int .i64 0, .slice none 0 0] 30)) #[.int .i64 0] 3
  have hz1 : (((w.alloc (.cells #[.int .i64 0, .int .i64 0, .slice none 0 0] 30)).alloc (.cells #[.int .i64 0, .int .i64 0, .slice none 0 0] 30)).alloc (.cells #[.int .i64 0] 3)).heap.size = w.heap.size + 3 := by simp
  simp only [World.size_alloc] at qf qc0
  obtain ⟨W1, hW1⟩ : ∃ W1, ((w.alloc (.cells #[.int .i64 0, .int .i64 0, .slice none 0 0] 30)).alloc (.cells #[.int .i64 0, .int .i64 0, .slice none 0 0] 30)).alloc (.cells #[.int .i64 0] 3) = W1 := ⟨_, rfl⟩
  rw [hW1] at hb1 qr qf qc0 hz1
  have HW1 := Lib.hid hW1
  clear hW1
  have hst0 : StA (w.heap.size + 1) (w.heap.size + 1) (w.heap.size + 2) [] [] W1 := by
    refine ⟨_, qf, fun k hk => ?_, OwnK.nil _ _ _ _⟩
    have hk' : k < [(w.heap.size + 2)].length := hk
    simp only [List.length_cons, List.length_nil] at hk'
    match k, hk' with
    | 0, _ => exact qc0
  obtain ⟨l, hl⟩ : ∃ l, s.data.toList = l := ⟨_, rfl⟩
  have hcall := parse_any (w.heap.size + 1) 49 45 46 #[.pointer (some ⟨w.heap.size + 1, 0, none⟩), .pointer (some ⟨w.heap.size + 2, 0, none⟩)] #[.pointer (some ⟨w.heap.size + 1, 0, none⟩)] (fun rows W => StA (w.heap.size + 1) (w.heap.size + 1) (w.heap.size + 2) (rowF rows) rows.tail W) wBACK 3 wReturn 2 s W1
    (enters_of Tryz.func45 (by kernel_rfl) rfl) (enters_of Tryz.func46 (by kernel_rfl) rfl) (by decide) (by decide) (by decide)
    (fun rows A B h hs hb => h.sx hs (by omega) (by intro x hx; simp only [List.mem_cons, List.not_mem_nil, or_false] at hx; subst hx <;> omega))
    (fun x W hx h hM hb => (headA_any (w.heap.size + 1) W1.heap.size (w.heap.size + 1) (w.heap.size + 2) x W hx h hM ⟨by omega, by omega⟩ ⟨by omega, by omega⟩ (by omega) hb.size (by omega)).mono fun e W' ⟨h1, h2, h3, h4⟩ => ⟨h1, h2, h3, h4⟩)
    (fun x rows W hx hne hl h hM hb => (itemA_any (w.heap.size + 1) W1.heap.size (w.heap.size + 1) (w.heap.size + 2) (rowF rows) rows.tail x W hx h (by rw [List.length_tail]; omega) hM ⟨by omega, by omega⟩ ⟨by omega, by omega⟩ (by omega) hb.size (by omega)).mono fun e W' ⟨h1, h2, h3, h4⟩ => ⟨h1, fun r hr => by
      have := h2 r hr
      cases rows with
      | nil => exact absurd rfl hne
      | cons a b => exact this, h3, h4⟩)
    (by omega) hst0 (hM.up hb1 (by omega)) (by have := hT.2.1; omega) ((hb1.cell (p := ⟨5, 15, none⟩) hT.2.1).trans hT.2.2) hs
  rw [hl] at hcall ⊢
  rw [show parseS wBACK 3 wReturn 2 l = pA l from rfl] at hcall
  have HQ := Lib.hid (show Blk W1 w.heap.size #[.int .i64 0, .int .i64 0, .slice none 0 0] 30 from qr)
  have hz1' := hz1
  have HZ := Lib.hid hz1'
  clear hz1' hst0 qf qc0 hl
  go_enter Tryz.func22, Tryz.ntmps22
  go_wp2_with fail
  rw [HW1.out]
  refine hcall.mono ?_
  rintro e w2 ⟨rfl, hst, hb2⟩
  clear hcall
  have hbw2 : Below w.heap.size w w2 := hb1.trans (hb2.mono (by omega))
  have qr2 := HQ.out.below hb2 (by omega)
  obtain ⟨r0, r1, r2⟩ := qr2.three
  have rf0 := qr2.free 0
  have rf1 := qr2.free 1
  have rf2 := qr2.free 2
  clear qr
  by_cases hpc : (pA l).2 = 0
  case neg =>
    have hrd : readA l = (An.z, (pA l).2) := by unfold readA; rw [if_pos hpc]
    obtain ⟨pc, hpce⟩ : ∃ pc, (pA l).2 = pc := ⟨_, rfl⟩
    rw [hpce] at hst hpc hrd ⊢
    have HRD := Lib.hid hrd
    have HPC := Lib.hid hpce
    have hne : (pc != 0) = true := by rw [bne_iff_ne]; exact hpc
    clear hrd hpce hst hpc hz1 HZ
    go_wp2_with fail
    obtain ⟨W9, hW9⟩ : ∃ W9, (((w2.setCell ⟨w.heap.size, 0, none⟩ (.int .i64 0)).setCell ⟨w.heap.size, 1, none⟩ (.int .i64 0)).setCell ⟨w.heap.size, 2, none⟩ (.slice none 0 0)) = W9 := ⟨_, rfl⟩
    have q9 := qr2.set3 (.int .i64 0) (.int .i64 0) (.slice none 0 0)
    have hb9 := hbw2.trans (below_set3 (w := w2) (Nat.le_refl w.heap.size) (.int .i64 0) (.int .i64 0) (.slice none 0 0))
    rw [hW9] at q9 hb9 ⊢
    clear hW9
    obtain ⟨z0, z1, z2⟩ := q9.three
    refine bodyPost_ret (v := .tuple #[.agg #[.int .i64 0, .int .i64 0, .slice none 0 0], .int .i64 pc]) (by simp [results, Tryz.results22, go_sem, z0, z1, z2]) rfl ⟨.slice none 0 0, ?_, ?_, hb9⟩
    · rw [HRD.out]; rfl
    · rw [HRD.out]; exact Recs.nil none 0 (by simp [maxLen]) (fun _ => rfl)
  case pos =>
    obtain ⟨rows, hrows⟩ : ∃ rows, (pA l).1 = rows := ⟨_, rfl⟩
    have hrd : readA l = if okA (anOf rows) = true ∧ (rowF rows)[2]?.getD 0 = ((anOf rows).rts.length : Int) then (anOf rows, 0) else (An.z, 362) := by
      unfold readA; rw [if_neg (by rw [hpc]; simp), hrows]
    have hst' := hst hpc
    rw [hrows] at hst'
    rw [hpc]
    have HRD0 := Lib.hid hrd
    clear hst hrows hrd hpc
    obtain ⟨ov, f1, f2, f3⟩ := hst'
    have g0 := f2 0 (by simp)
    have g1 := True.intro
    have hov : Rets w2.heap.size w2 ov (rows.tail.map rtOf) := rets_of_rows f3.recs
    obtain ⟨oa, oc, rfl⟩ := f3.form
    have hlm : (rows.tail.map rtOf).length = rows.tail.length := by simp
    have HLM := Lib.hid hlm
    clear hlm f2
    obtain ⟨num, hnum⟩ : ∃ x, (rowF rows)[0]?.getD 0 = x := ⟨_, rfl⟩
    obtain ⟨day, hday⟩ : ∃ x, (rowF rows)[1]?.getD 0 = x := ⟨_, rfl⟩
    obtain ⟨cnt, hcnt⟩ : ∃ x, (rowF rows)[2]?.getD 0 = x := ⟨_, rfl⟩
    have hsm := True.intro
    obtain ⟨od, hod⟩ : ∃ x, rows.tail.map rtOf = x := ⟨_, rfl⟩
    obtain ⟨n, hn⟩ : ∃ n, rows.tail.length = n := ⟨_, rfl⟩
    have hfi : anOf rows = ⟨num, day, od⟩ := by rw [← hnum, ← hday, ← hod]; rfl
    have HFI := Lib.hid hfi
    have HL2 : Hid (od.length = n) := Lib.hid (by rw [← hod, List.length_map, hn])
    have HCN := Lib.hid hcnt
    have HSU := True.intro
    rw [hnum, hday] at f1
    dsimp only [List.getElem?_cons_zero, List.getElem?_cons_succ, Option.getD_some, Nat.zero_add, Nat.reduceAdd] at g0
    rw [hcnt] at g0
    clear g1
    rw [hod] at hov
    rw [hn] at f1 f3 hov
    obtain ⟨d0, d1, d2⟩ := f1.three
    have k0 : w2.cell? _ = _ := g0.at (i := 0) rfl
    have k1 := True.intro
    have HOD := Lib.hid hod
    clear hnum hday hcnt hod hn hfi hsm k1
    have hcv := right_any w2.heap.size _ num day od w2 hov (Nat.le_refl _)
    obtain ⟨x, hx⟩ : ∃ x, okA ⟨num, day, od⟩ = x := ⟨_, rfl⟩
    rw [hx] at hcv
    have HX := Lib.hid hx
    clear hx
    cases x with
    | false =>
      have hrd : readA l = (An.z, 362) := by
        rw [HRD0.out, HFI.out, if_neg]
        rintro ⟨h, _⟩
        rw [HX.out] at h; cases h
      have HRD := Lib.hid hrd
      clear hrd
      go_wp2_with fail
      refine hcv.mono ?_
      rintro e w3 ⟨rfl, hb3⟩
      clear hcv d0 d1 d2 k0 r0 r1 r2 rf0 rf1 rf2
      obtain ⟨d0, d1, d2⟩ := (f1.below hb3 f1.lt).three
      have k0 : w3.cell? _ = _ := (g0.below hb3 g0.lt).at (i := 0) rfl
      have qr3 := qr2.below hb3 qr2.lt
      obtain ⟨r0, r1, r2⟩ := qr3.three
      have rf0 := qr3.free 0
      have rf1 := qr3.free 1
      have rf2 := qr3.free 2
      have hb9' := hbw2.trans (hb3.mono hbw2.size)
      go_wp2_with fail
      obtain ⟨W9, hW9⟩ : ∃ W9, (((w3.setCell ⟨w.heap.size, 0, none⟩ (.int .i64 0)).setCell ⟨w.heap.size, 1, none⟩ (.int .i64 0)).setCell ⟨w.heap.size, 2, none⟩ (.slice none 0 0)) = W9 := ⟨_, rfl⟩
      have q9 := qr3.set3 (.int .i64 0) (.int .i64 0) (.slice none 0 0)
      have hb9 := hb9'.trans (below_set3 (w := w3) (Nat.le_refl w.heap.size) (.int .i64 0) (.int .i64 0) (.slice none 0 0))
      rw [hW9] at q9 hb9 ⊢
      clear hW9
      obtain ⟨z0, z1, z2⟩ := q9.three
      refine bodyPost_ret (v := .tuple #[.agg #[.int .i64 0, .int .i64 0, .slice none 0 0], .int .i64 362]) (by simp [results, Tryz.results22, go_sem, z0, z1, z2]) rfl ⟨.slice none 0 0, ?_, ?_, hb9⟩
      · rw [HRD.out]; rfl
      · rw [HRD.out]; exact Recs.nil none 0 (by simp [maxLen]) (fun _ => rfl)
    | true =>
      by_cases hcn : cnt = (n : Int)
      case neg =>
        have hrd : readA l = (An.z, 362) := by
          rw [HRD0.out, HFI.out, if_neg]
          rintro ⟨_, h⟩
          rw [HCN.out] at h
          exact hcn (h.trans (by show ((od.length : Nat) : Int) = _; rw [HL2.out]))
        have HRD := Lib.hid hrd
        have hne : (cnt != (n : Int)) = true := by rw [bne_iff_ne]; exact hcn
        clear hrd hcn
        go_wp2_with fail
        refine hcv.mono ?_
        rintro e w3 ⟨rfl, hb3⟩
        clear hcv d0 d1 d2 k0 r0 r1 r2 rf0 rf1 rf2
        obtain ⟨d0, d1, d2⟩ := (f1.below hb3 f1.lt).three
        have k0 : w3.cell? _ = _ := (g0.below hb3 g0.lt).at (i := 0) rfl
        have qr3 := qr2.below hb3 qr2.lt
        obtain ⟨r0, r1, r2⟩ := qr3.three
        have rf0 := qr3.free 0
        have rf1 := qr3.free 1
        have rf2 := qr3.free 2
        have hb9' := hbw2.trans (hb3.mono hbw2.size)
        go_wp2_with fail
        obtain ⟨W9, hW9⟩ : ∃ W9, (((w3.setCell ⟨w.heap.size, 0, none⟩ (.int .i64 0)).setCell ⟨w.heap.size, 1, none⟩ (.int .i64 0)).setCell ⟨w.heap.size, 2, none⟩ (.slice none 0 0)) = W9 := ⟨_, rfl⟩
        have q9 := qr3.set3 (.int .i64 0) (.int .i64 0) (.slice none 0 0)
        have hb9 := hb9'.trans (below_set3 (w := w3) (Nat.le_refl w.heap.size) (.int .i64 0) (.int .i64 0) (.slice none 0 0))
        rw [hW9] at q9 hb9 ⊢
        clear hW9
        obtain ⟨z0, z1, z2⟩ := q9.three
        refine bodyPost_ret (v := .tuple #[.agg #[.int .i64 0, .int .i64 0, .slice none 0 0], .int .i64 362]) (by simp [results, Tryz.results22, go_sem, z0, z1, z2]) rfl ⟨.slice none 0 0, ?_, ?_, hb9⟩
        · rw [HRD.out]; rfl
        · rw [HRD.out]; exact Recs.nil none 0 (by simp [maxLen]) (fun _ => rfl)
      case pos =>
        have hrd : readA l = (⟨num, day, od⟩, 0) := by
          rw [HRD0.out, HFI.out, if_pos]
          refine ⟨HX.out, ?_⟩
          rw [HCN.out, hcn]
          show _ = ((od.length : Nat) : Int)
          rw [HL2.out]
        have HRD := Lib.hid hrd
        have hne : (cnt != (n : Int)) = false := by rw [bne_eq_false_iff_eq]; exact hcn
        clear hrd hcn
        go_wp2_with fail
        refine hcv.mono ?_
        rintro e w3 ⟨rfl, hb3⟩
        clear hcv d0 d1 d2 k0 r0 r1 r2 rf0 rf1 rf2
        obtain ⟨d0, d1, d2⟩ := (f1.below hb3 f1.lt).three
        have k0 : w3.cell? _ = _ := (g0.below hb3 g0.lt).at (i := 0) rfl
        have qr3 := qr2.below hb3 qr2.lt
        obtain ⟨r0, r1, r2⟩ := qr3.three
        have rf0 := qr3.free 0
        have rf1 := qr3.free 1
        have rf2 := qr3.free 2
        have hb9' := hbw2.trans (hb3.mono hbw2.size)
        go_wp2_with fail
        obtain ⟨W9, hW9⟩ : ∃ W9, (((w3.setCell ⟨w.heap.size, 0, none⟩ (.int .i64 num)).setCell ⟨w.heap.size, 1, none⟩ (.int .i64 day)).setCell ⟨w.heap.size, 2, none⟩ (.slice oa n oc)) = W9 := ⟨_, rfl⟩
        have q9 := qr3.set3 (.int .i64 num) (.int .i64 day) (.slice oa n oc)
        have hO9 := (f3.old hb3).set3 qr3 neA (.int .i64 num) (.int .i64 day) (.slice oa n oc)
        have hb9 := hb9'.trans (below_set3 (w := w3) (Nat.le_refl w.heap.size) (.int .i64 num) (.int .i64 day) (.slice oa n oc))
        rw [hW9] at q9 hb9 hO9 ⊢
        clear hW9
        obtain ⟨z0, z1, z2⟩ := q9.three
        refine bodyPost_ret (v := .tuple #[.agg #[.int .i64 num, .int .i64 day, .slice oa n oc], .int .i64 0]) (by simp [results, Tryz.results22, go_sem, z0, z1, z2]) rfl ⟨.slice oa n oc, ?_, ?_, hb9⟩
        · rw [HRD.out]
        · rw [HRD.out]
          have h9 := rets_of_rows hO9.recs
          rw [HOD.out] at h9
          exact h9
end Go.Proofs.YtaccaebdmndkiaaGreatDoor
