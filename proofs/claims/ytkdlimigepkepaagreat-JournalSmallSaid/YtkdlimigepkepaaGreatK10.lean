/- Layer 37's stores: the functions of a store return what the reference returns, and share no memory. No conditions beyond sizes. -/
import Derived.Test.YtkdlimigepkepaaGreatK9
namespace Go.Proofs.YtkdlimigepkepaaGreat
open Go.RowKit
set_option linter.unusedVariables false

theorem two_at {f : FuncId} {args : Array Value} {w : World} {p c : Int} {l : List UInt8} (h : Calls Tryz.prog f args w fun e w' => ∃ v', e = .returned (.tuple #[.agg #[v', .int .i64 p], .int .i64 c]) ∧ OwnB w.heap.size w' v' l ∧ Below w.heap.size w w') :
    Calls Tryz.prog f args w fun e w' => ∃ a cap, e = .returned (.tuple #[.agg #[.slice a l.length cap, .int .i64 p], .int .i64 c]) ∧ OwnB w.heap.size w' (.slice a l.length cap) l ∧ Below w.heap.size w w' := by
  refine h.mono ?_
  rintro e w' ⟨v', rfl, ho, hb⟩
  obtain ⟨a, cap, rfl, _⟩ := ho.form
  exact ⟨_, _, rfl, ho, hb⟩
theorem one_at {f : FuncId} {args : Array Value} {w : World} {c : Int} {l : List UInt8} (h : Calls Tryz.prog f args w fun e w' => ∃ v', e = .returned (.tuple #[v', .int .i64 c]) ∧ OwnB w.heap.size w' v' l ∧ Below w.heap.size w w') :
    Calls Tryz.prog f args w fun e w' => ∃ a cap, e = .returned (.tuple #[.slice a l.length cap, .int .i64 c]) ∧ OwnB w.heap.size w' (.slice a l.length cap) l ∧ Below w.heap.size w w' := by
  refine h.mono ?_
  rintro e w' ⟨v', rfl, ho, hb⟩
  obtain ⟨a, cap, rfl, _⟩ := ho.form
  exact ⟨_, _, rfl, ho, hb⟩
theorem open_named {s : St} {L : Lg} {ps : List (List UInt8)} {c : Int} (hr : openS s = (L, ps, c)) (K : Nat) (v : Value) (w : World) (hv : Byts K w v s.data) (hK : K ≤ w.heap.size) (hp : s.power ≤ 2 ^ 63 - 1) :
    Calls Tryz.prog 17 #[.agg #[v, .int .i64 s.power]] w fun e w' => ∃ a cap pa pcap vs,
      e = .returned (.tuple #[.agg #[.slice a L.st.data.length cap, .int .i64 L.st.power, .int .i64 L.count, .bool L.down], .slice pa ps.length pcap, .int .i64 c]) ∧
      OwnB w.heap.size w' (.slice a L.st.data.length cap) L.st.data ∧ Tx w.heap.size w'.heap.size w' (.slice pa ps.length pcap) vs ps ∧ (∀ b, (Value.slice a L.st.data.length cap).ownBlock = some b → b ∉ blocks vs) ∧ Below w.heap.size w w' := by
  refine (open_any K v s w hv hK hp).mono ?_
  rintro e w' ⟨v', pv, vs, rfl, ho, ht, hn, hb⟩
  rw [hr] at ho ht ⊢
  obtain ⟨a, cap, rfl, _⟩ := ho.form
  have hn0 : (blocks (.slice a L.st.data.length cap :: pv :: vs)).Nodup := hn
  rw [blocks_cons, List.nodup_append] at hn0
  obtain ⟨_, hn2, hn3⟩ := hn0
  have htx : Tx w.heap.size w'.heap.size w' pv vs ps := ⟨ht, hn2, fun b hb => ht.lt b hb⟩
  obtain ⟨pa, pcap, rfl, _⟩ := htx.form
  exact ⟨_, _, _, _, _, rfl, ho, htx, fun b e hm => hn3 b (by rw [e]; simp) b (by rw [blocks_cons]; exact List.mem_append_right _ hm) rfl, hb⟩

set_option maxRecDepth 100000 in
set_option maxHeartbeats 16000000 in
theorem stores_any (v vp : Value) (s : St) (d : List UInt8) (n : Int) (w : World) (hv : Byts w.heap.size w v s.data) (hd : Byts w.heap.size w vp d) (hp : s.power ≤ 2 ^ 63 - 1) (h1 : s.data.length ≤ 2 ^ 20) (h2 : d.length ≤ 2 ^ 20) :
    Calls Tryz.prog 5 #[.agg #[v, .int .i64 s.power], vp, .int .i64 n] w fun e w' => e = .returned (.bool true) ∧ Below w.heap.size w w' := by
  obtain ⟨⟨sa, ea⟩, hwr⟩ : ∃ x, writeS s d = x := ⟨_, rfl⟩
  obtain ⟨⟨sc, ec⟩, hct⟩ : ∃ x, cutS s n = x := ⟨_, rfl⟩
  obtain ⟨⟨La, qs, eo⟩, hop⟩ : ∃ x, openS s = x := ⟨_, rfl⟩
  obtain ⟨⟨fx, ef⟩, hfo⟩ : ∃ x, formR n d = x := ⟨_, rfl⟩
  have hal := writeS_len s d
  have hcl := cutS_len s n
  obtain ⟨hol, hqs⟩ := openS_len hop
  have hfl := formR_len n d
  rw [hwr] at hal
  rw [hct] at hcl
  rw [hfo] at hfl
  obtain ⟨va, vcap, rfl, _, hvc, _⟩ := id hv
  obtain ⟨da, dcap, rfl, _, hdc, _⟩ := id hd
  have hvc' : vcap ≤ 2 ^ 63 - 1 := by unfold maxLen at hvc; omega
  have HV := Lib.hid hv; have HD := Lib.hid hd; have HP := Lib.hid hp; have HOP := Lib.hid hop
  have hW : ∀ (K : Nat) (v vp : Value) (w : World), Byts K w v s.data → Byts K w vp d → K ≤ w.heap.size → Calls Tryz.prog 12 #[.agg #[v, .int .i64 s.power], vp] w fun e w' => ∃ a cap, e = .returned (.tuple #[.agg #[.slice a sa.data.length cap, .int .i64 sa.power], .int .i64 ea]) ∧ OwnB w.heap.size w' (.slice a sa.data.length cap) sa.data ∧ Below w.heap.size w w' :=
    fun K v vp w h3 h4 h5 => two_at (by have := write_any K v vp s d w h3 h4 h5 HP.out; rw [hwr] at this; exact this)
  have hW2 : ∀ (K : Nat) (v vp : Value) (w : World), Byts K w v s.data → Byts K w vp d → K ≤ w.heap.size → Calls Tryz.prog 13 #[.agg #[v, .int .i64 s.power], vp] w fun e w' => ∃ a cap, e = .returned (.tuple #[.agg #[.slice a sa.data.length cap, .int .i64 sa.power], .int .i64 ea]) ∧ OwnB w.heap.size w' (.slice a sa.data.length cap) sa.data ∧ Below w.heap.size w w' :=
    fun K v vp w h3 h4 h5 => two_at (by have := write_ref K v vp s d w h3 h4 h5 HP.out (by omega) (by omega); rw [hwr] at this; exact this)
  have hC : ∀ (K : Nat) (v : Value) (w : World), Byts K w v s.data → K ≤ w.heap.size → Calls Tryz.prog 15 #[.agg #[v, .int .i64 s.power], .int .i64 n] w fun e w' => ∃ a cap, e = .returned (.tuple #[.agg #[.slice a sc.data.length cap, .int .i64 sc.power], .int .i64 ec]) ∧ OwnB w.heap.size w' (.slice a sc.data.length cap) sc.data ∧ Below w.heap.size w w' :=
    fun K v w h3 h4 => two_at (by have := cut_any K v s n w h3 h4 HP.out; rw [hct] at this; exact this)
  have hC2 : ∀ (K : Nat) (v : Value) (w : World), Byts K w v s.data → K ≤ w.heap.size → Calls Tryz.prog 16 #[.agg #[v, .int .i64 s.power], .int .i64 n] w fun e w' => ∃ a cap, e = .returned (.tuple #[.agg #[.slice a sc.data.length cap, .int .i64 sc.power], .int .i64 ec]) ∧ OwnB w.heap.size w' (.slice a sc.data.length cap) sc.data ∧ Below w.heap.size w w' :=
    fun K v w h3 h4 => two_at (by have := cut_ref K v s n w h3 h4 HP.out; rw [hct] at this; exact this)
  have hO : ∀ (K : Nat) (v : Value) (w : World), Byts K w v s.data → K ≤ w.heap.size → Calls Tryz.prog 17 #[.agg #[v, .int .i64 s.power]] w fun e w' => ∃ a cap pa pcap vs,
      e = .returned (.tuple #[.agg #[.slice a La.st.data.length cap, .int .i64 La.st.power, .int .i64 La.count, .bool La.down], .slice pa qs.length pcap, .int .i64 eo]) ∧
      OwnB w.heap.size w' (.slice a La.st.data.length cap) La.st.data ∧ Tx w.heap.size w'.heap.size w' (.slice pa qs.length pcap) vs qs ∧ (∀ b, (Value.slice a La.st.data.length cap).ownBlock = some b → b ∉ blocks vs) ∧ Below w.heap.size w w' := fun K v w h3 h4 => open_named HOP.out K v w h3 h4 HP.out
  have hO2 : ∀ (K : Nat) (v : Value) (w : World), Byts K w v s.data → K ≤ w.heap.size → Calls Tryz.prog 18 #[.agg #[v, .int .i64 s.power]] w fun e w' => ∃ a cap pa pcap,
      e = .returned (.tuple #[.agg #[.slice a La.st.data.length cap, .int .i64 La.st.power, .int .i64 La.count, .bool La.down], .slice pa qs.length pcap, .int .i64 eo]) ∧
      OwnB w.heap.size w' (.slice a La.st.data.length cap) La.st.data ∧ OwnTs w.heap.size w' (.slice pa qs.length pcap) qs ∧ Below w.heap.size w w' := fun K v w h3 h4 => open_ref_at HOP.out K v w h3 h4 HP.out (by omega)
  have hF : ∀ (K : Nat) (v : Value) (w : World), Byts K w v d → K ≤ w.heap.size → Calls Tryz.prog 19 #[.int .i64 n, v] w fun e w' => ∃ a cap, e = .returned (.tuple #[.slice a fx.length cap, .int .i64 ef]) ∧ OwnB w.heap.size w' (.slice a fx.length cap) fx ∧ Below w.heap.size w w' :=
    fun K v w h3 h4 => one_at (by have := form_all K v d n w h3 h4; rw [hfo] at this; exact this)
  have hF2 : ∀ (K : Nat) (v : Value) (w : World), Byts K w v d → K ≤ w.heap.size → Calls Tryz.prog 4 #[.int .i64 n, v] w fun e w' => ∃ a cap, e = .returned (.tuple #[.slice a fx.length cap, .int .i64 ef]) ∧ OwnB w.heap.size w' (.slice a fx.length cap) fx ∧ Below w.heap.size w w' :=
    fun K v w h3 h4 => one_at (by have := form_ref_all K v d n w h3 h4; rw [hfo] at this; exact this)
  obtain ⟨sd, hsd⟩ : ∃ x, s.data = x := ⟨_, rfl⟩
  obtain ⟨p, hsp⟩ : ∃ x, s.power = x := ⟨_, rfl⟩
  rw [hsd, hsp] at hW hW2 hC hC2 hO hO2
  rw [hsd] at h1 HV hal hcl hol hqs
  rw [hsd, hsp]
  obtain ⟨us, hus⟩ : ∃ x, scanOf sd = x := ⟨_, rfl⟩
  obtain ⟨hu1, hu2⟩ := scan_small sd
  rw [hus] at hqs hu1 hu2
  have hq1 : qs.length ≤ 65536 := by
    rcases hqs with h | h
    · rw [h]; simp
    · rw [h]; exact hu1
  have hq2 : ∀ i, i < qs.length → (qs[i]?.getD []).length ≤ 4096 := by
    rcases hqs with h | h
    · rw [h]; intro i hi; simp at hi
    · rw [h]; exact hu2
  have hS : ∀ (K : Nat) (v : Value) (w : World), Byts w.heap.size w v sd → Calls Tryz.prog 20 #[v] w fun e w' => ∃ v', e = .returned (.tuple #[v', .int .i64 (endOf us)]) ∧ OwnTs w.heap.size w' v' us ∧ Below w.heap.size w w' := fun K v w h3 => hus ▸ scan_of v sd w h3
  have hS2 : ∀ (K : Nat) (v : Value) (w : World), Byts K w v sd → K ≤ w.heap.size → Calls Tryz.prog 21 #[v] w fun e w' => ∃ v', e = .returned (.tuple #[v', .int .i64 (endOf us)]) ∧ OwnTs w.heap.size w' v' us ∧ Below w.heap.size w w' := fun K v w h3 h4 => hus ▸ scan_ref K v sd w h3 h4 (by omega)
  obtain ⟨ue, hue⟩ : ∃ x, endOf us = x := ⟨_, rfl⟩
  rw [hue] at hS hS2
  have HW := Lib.hid hW; have HW2 := Lib.hid hW2; have HC := Lib.hid hC; have HC2 := Lib.hid hC2; have HO := Lib.hid hO; have HO2 := Lib.hid hO2; have HF := Lib.hid hF; have HF2 := Lib.hid hF2; have HS := Lib.hid hS; have HS2 := Lib.hid hS2
  have HAL := Lib.hid hal; have HCL := Lib.hid hcl; have HOL := Lib.hid hol; have HFL := Lib.hid hfl; have HQ2 := Lib.hid hq2; have HU2 := Lib.hid hu2; have HQ1 := Lib.hid hq1; have HU1 := Lib.hid hu1
  obtain ⟨dl, hdl⟩ : ∃ x, sd.length = x := ⟨_, rfl⟩
  rw [hdl] at h1 HV HAL HCL HOL ⊢
  have HDL := Lib.hid hdl
  clear hv hd hp hwr hct hop hfo hal hcl hol hqs hfl hvc hdc hW hW2 hC hC2 hO hO2 hF hF2 hS hS2 hsd hsp hus hue hu1 hu2 hq1 hq2 hdl
  go_enter Tryz.func5, Tryz.ntmps5
  go_upto_region 1 with fail
  have hk1 : Below w.heap.size w (w.alloc (.cells #[.slice va dl vcap, .int .i64 p] 28)) := (Below.refl _ w).alloc (Nat.le_refl _) _
  have q3 := Blk.new w #[.slice va dl vcap, .int .i64 p] 28
  obtain ⟨W, hW⟩ : ∃ X, w.alloc (.cells #[.slice va dl vcap, .int .i64 p] 28) = X := ⟨_, rfl⟩
  obtain ⟨b3, hb3⟩ : ∃ X, w.heap.size = X := ⟨_, rfl⟩
  rw [hW] at q3 hk1 ⊢
  rw [hb3] at q3 hk1 HV HD ⊢
  have HB3 := Lib.hid hb3
  clear hW hb3
  have hbW : b3 < W.heap.size := q3.lt
  go_cut [7, 8] from 31 to 38 (fun s7 s8 wx => ∃ r7 ia icap la lcap mid, s7 = .pointer (some ⟨r7, 0, none⟩) ∧ W.heap.size ≤ r7 ∧ s8 = .slice la d.length lcap ∧ Blk wx r7 #[.slice ia dl icap, .int .i64 p] 28 ∧ Row W.heap.size mid wx (.slice ia (dl + 12) icap) (sd ++ marks 1 12) ∧ Row mid wx.heap.size wx (.slice la (d.length + 12) lcap) (d ++ marks 1 12) ∧ W.heap.size ≤ mid ∧ mid ≤ wx.heap.size ∧ Below W.heap.size W wx)
  case first =>
    refine region_plain (S1 b3 #[.slice va dl vcap, .int .i64 p] 28) [] (by kernel_rfl) ?_
    have q0 : S1 b3 #[.slice va dl vcap, .int .i64 p] 28 W.drew := q3
    refine wpAnyD_take (i := 0) (v := .pointer (some ⟨b3, 0, none⟩)) rfl (by kernel_rfl) (by kernel_rfl) (by kernel_rfl) (by kernel_rfl) (by kernel_rfl) (fun _ _ _ h => h) (.inl ⟨by kernel_rfl, fun W' hS => by go_simp⟩) q0 ?_
    refine wpAnyD_take (i := 1) (v := .slice va dl vcap) rfl (by kernel_rfl) (by kernel_rfl) (by kernel_rfl) (by kernel_rfl) (by kernel_rfl) (fun _ _ _ h => h) (.inl ⟨by kernel_rfl, fun W' hS => by obtain ⟨c0, c1, f0, f1⟩ := (show Blk W' b3 _ _ from hS).two; go_simp⟩) q0 ?_
    refine wpAnyD_take (i := 3) (v := .pointer (some ⟨b3, 1, none⟩)) rfl (by kernel_rfl) (by kernel_rfl) (by kernel_rfl) (by kernel_rfl) (by kernel_rfl) (fun _ _ _ h => h) (.inl ⟨by kernel_rfl, fun W' hS => by go_simp⟩) q0 ?_
    refine wpAnyD_take (i := 4) (v := .int .i64 p) rfl (by kernel_rfl) (by kernel_rfl) (by kernel_rfl) (by kernel_rfl) (by kernel_rfl) (fun _ _ _ h => h) (.inl ⟨by kernel_rfl, fun W' hS => by obtain ⟨c0, c1, f0, f1⟩ := (show Blk W' b3 _ _ from hS).two; go_simp⟩) q0 ?_
    refine wpAnyD_take (i := 6) (v := .slice da d.length dcap) rfl (by kernel_rfl) (by kernel_rfl) (by kernel_rfl) (by kernel_rfl) (by kernel_rfl) (fun _ _ _ h => h) (.inl ⟨by kernel_rfl, fun W' hS => by go_simp⟩) q0 ?_
    obtain ⟨W0, hW0⟩ : ∃ X, W.drew = X := ⟨_, rfl⟩
    have hk : Below W.heap.size W W0 := hW0 ▸ (Below.refl _ W).drew
    rw [hW0] at q0 ⊢
    clear hW0
    have hs0 := hk.size
    refine wpAnyD_two (i := 2) (j := 8) (by kernel_rfl) rfl rfl (by kernel_rfl) (by kernel_rfl) ?_ ?_
    · go_simp
      refine (lent_any W0.heap.size _ sd W0 ((HV.out.below hk1 (Nat.le_refl _)).below (K' := W0.heap.size) (hk.mono (by omega)) (by omega)) (Nat.le_refl _) (by rw [HDL.out]; omega)).mono ?_
      rw [HDL.out]
      rintro e W1 ⟨ia, icap, rfl, hoin, hbW1⟩
      have hsW1 := hbW1.size
      have q1 : S1 b3 #[.slice va dl vcap, .int .i64 p] 28 W1 := Blk.below q0 hbW1 (by omega)
      refine ⟨q1, ?_⟩
      have ri := Row.mk' hoin
      replace hk := hk.trans (hbW1.mono hs0)
      refine wpAnyD_take (i := 5) (v := .agg #[.slice ia dl icap, .int .i64 p]) rfl (by kernel_rfl) (by kernel_rfl) (by kernel_rfl) (by kernel_rfl) (by kernel_rfl) (fun _ _ _ h => h) (.inl ⟨by kernel_rfl, fun W' hS => by go_simp⟩) q1 ?_
      refine wpAnyD_two (i := 7) (j := 8) (by kernel_rfl) rfl rfl (by kernel_rfl) (by kernel_rfl) ?_ ?_
      · go_simp
        refine (lent_any W1.heap.size _ d W1 ((HD.out.below hk1 (Nat.le_refl _)).below (K' := W1.heap.size) (hk.mono (by omega)) (by omega)) (Nat.le_refl _) (by omega)).mono ?_
        rintro e W2 ⟨la, lcap, rfl, hod, hbW2⟩
        have hsW2 := hbW2.size
        have q2 : S1 b3 #[.slice va dl vcap, .int .i64 p] 28 W2 := Blk.below q1 hbW2 (by omega)
        refine ⟨q2, ?_⟩
        have rd := Row.mk' hod
        replace ri := ri.below hbW2
        replace hk := hk.trans (hbW2.mono (by omega))
        refine wpAnyD_one (i := 8) (by kernel_rfl) rfl (by kernel_rfl) ?_
        go_simp
        have q3x : S1 b3 #[.slice va dl vcap, .int .i64 p] 28 (W2.alloc (.cells #[.slice none 0 0, .int .i64 0] 28)) := Blk.alloc q2 _
        refine ⟨q3x, ?_⟩
        have ab := Blk.new W2 #[.slice none 0 0, .int .i64 0] 28
        replace ri := ri.below ((Below.refl W2.heap.size W2).alloc (Nat.le_refl _) (.cells #[.slice none 0 0, .int .i64 0] 28))
        replace rd := rd.below ((Below.refl W2.heap.size W2).alloc (Nat.le_refl _) (.cells #[.slice none 0 0, .int .i64 0] 28))
        replace hk := hk.alloc (by omega) (.cells #[.slice none 0 0, .int .i64 0] 28)
        obtain ⟨W3, hWW3⟩ : ∃ X, (W2.alloc (.cells #[.slice none 0 0, .int .i64 0] 28)) = X := ⟨_, rfl⟩
        have hsW3 : W2.heap.size + 1 = W3.heap.size := by rw [← hWW3]; simp
        have hr0 : W.heap.size ≤ W2.heap.size := by omega
        obtain ⟨r, hr⟩ : ∃ X, W2.heap.size = X := ⟨_, rfl⟩
        rw [hWW3] at q3x ab hk ri rd ⊢
        rw [hr] at ab hr0 hsW3 rd ⊢
        try rw [hr] at hsW2
        clear hWW3
        obtain ⟨c0, c1, f0, f1⟩ := ab.two
        refine wpAnyD_one (i := 9) (by kernel_rfl) rfl (by kernel_rfl) ?_
        go_simp
        obtain ⟨W9, hW9, ab9, hp9, ha9, hz9⟩ := put2 ab (.slice ia dl icap) (.int .i64 p)
        have hri : Row W.heap.size W1.heap.size W9 (.slice ia (dl + 12) icap) (sd ++ marks 1 12) := ⟨(ri.own.keptP2 (ab.ne_own (by decide) ri.own) hW9).mono (by omega), fun b hb => by have := ri.hi b hb; omega⟩
        have hrd : Row W1.heap.size W9.heap.size W9 (.slice la (d.length + 12) lcap) (d ++ marks 1 12) := ⟨(rd.own.keptP2 (ab.ne_own (by decide) rd.own) hW9).mono (by omega), fun b hb => by have := rd.hi b hb; omega⟩
        rw [hW9]
        have q9' : S1 b3 #[.slice va dl vcap, .int .i64 p] 28 W9 := Blk.below q3x hp9 (by omega)
        refine ⟨q9', ?_⟩
        refine wpAnyD_one (i := 10) (by kernel_rfl) rfl (by kernel_rfl) ?_
        go_simp
        refine wpAnyD_done (by kernel_rfl) ?_ _
        go_wp2_with fail
        go_meet
        exact ⟨r, ia, icap, la, lcap, W1.heap.size, rfl, by omega, rfl, ab9, hri, hrd, by omega, by omega, hk.trans (hp9.mono (by omega))⟩
      · go_simp
        have q2 : S1 b3 #[.slice va dl vcap, .int .i64 p] 28 (W1.alloc (.cells #[.slice none 0 0, .int .i64 0] 28)) := Blk.alloc q1 _
        refine ⟨q2, ?_⟩
        have ab := Blk.new W1 #[.slice none 0 0, .int .i64 0] 28
        replace ri := ri.below ((Below.refl W1.heap.size W1).alloc (Nat.le_refl _) (.cells #[.slice none 0 0, .int .i64 0] 28))
        replace hk := hk.alloc (by omega) (.cells #[.slice none 0 0, .int .i64 0] 28)
        obtain ⟨W2, hWW2⟩ : ∃ X, (W1.alloc (.cells #[.slice none 0 0, .int .i64 0] 28)) = X := ⟨_, rfl⟩
        have hsW2 : W1.heap.size + 1 = W2.heap.size := by rw [← hWW2]; simp
        have hr0 : W.heap.size ≤ W1.heap.size := by omega
        obtain ⟨r, hr⟩ : ∃ X, W1.heap.size = X := ⟨_, rfl⟩
        rw [hWW2] at q2 ab hk ri ⊢
        rw [hr] at ab hr0 hsW2 ri ⊢
        try rw [hr] at hsW1
        clear hWW2
        refine wpAnyD_one (i := 7) (by kernel_rfl) rfl (by kernel_rfl) ?_
        go_simp
        refine (lent_any W2.heap.size _ d W2 ((HD.out.below hk1 (Nat.le_refl _)).below (K' := W2.heap.size) (hk.mono (by omega)) (by omega)) (Nat.le_refl _) (by omega)).mono ?_
        rintro e W3 ⟨la, lcap, rfl, hod, hbW3⟩
        have hsW3 := hbW3.size
        have q3x : S1 b3 #[.slice va dl vcap, .int .i64 p] 28 W3 := Blk.below q2 hbW3 (by omega)
        refine ⟨q3x, ?_⟩
        have rd := Row.mk' hod
        replace ri := ri.below hbW3
        replace ab := ab.below hbW3 ab.lt
        replace hk := hk.trans (hbW3.mono (by omega))
        obtain ⟨c0, c1, f0, f1⟩ := ab.two
        refine wpAnyD_one (i := 9) (by kernel_rfl) rfl (by kernel_rfl) ?_
        go_simp
        obtain ⟨W9, hW9, ab9, hp9, ha9, hz9⟩ := put2 ab (.slice ia dl icap) (.int .i64 p)
        have hri : Row W.heap.size r W9 (.slice ia (dl + 12) icap) (sd ++ marks 1 12) := ⟨(ri.own.keptP2 (ab.ne_own (by decide) ri.own) hW9).mono (by omega), fun b hb => by have := ri.hi b hb; omega⟩
        have hrd : Row r W9.heap.size W9 (.slice la (d.length + 12) lcap) (d ++ marks 1 12) := ⟨(rd.own.keptP2 (ab.ne_own (by decide) rd.own) hW9).mono (by omega), fun b hb => by have := rd.hi b hb; omega⟩
        rw [hW9]
        have q9' : S1 b3 #[.slice va dl vcap, .int .i64 p] 28 W9 := Blk.below q3x hp9 (by omega)
        refine ⟨q9', ?_⟩
        refine wpAnyD_one (i := 10) (by kernel_rfl) rfl (by kernel_rfl) ?_
        go_simp
        refine wpAnyD_done (by kernel_rfl) ?_ _
        go_wp2_with fail
        go_meet
        exact ⟨r, ia, icap, la, lcap, r, rfl, by omega, rfl, ab9, hri, hrd, by omega, by omega, hk.trans (hp9.mono (by omega))⟩
    · go_simp
      have q1 : S1 b3 #[.slice va dl vcap, .int .i64 p] 28 (W0.alloc (.cells #[.slice none 0 0, .int .i64 0] 28)) := Blk.alloc q0 _
      refine ⟨q1, ?_⟩
      have ab := Blk.new W0 #[.slice none 0 0, .int .i64 0] 28
      replace hk := hk.alloc (by omega) (.cells #[.slice none 0 0, .int .i64 0] 28)
      obtain ⟨W1, hWW1⟩ : ∃ X, (W0.alloc (.cells #[.slice none 0 0, .int .i64 0] 28)) = X := ⟨_, rfl⟩
      have hsW1 : W0.heap.size + 1 = W1.heap.size := by rw [← hWW1]; simp
      have hr0 : W.heap.size ≤ W0.heap.size := by omega
      obtain ⟨r, hr⟩ : ∃ X, W0.heap.size = X := ⟨_, rfl⟩
      rw [hWW1] at q1 ab hk  ⊢
      rw [hr] at ab hr0 hsW1  ⊢
      try rw [hr] at hsW0
      clear hWW1
      refine wpAnyD_one (i := 2) (by kernel_rfl) rfl (by kernel_rfl) ?_
      go_simp
      refine (lent_any W1.heap.size _ sd W1 ((HV.out.below hk1 (Nat.le_refl _)).below (K' := W1.heap.size) (hk.mono (by omega)) (by omega)) (Nat.le_refl _) (by rw [HDL.out]; omega)).mono ?_
      rw [HDL.out]
      rintro e W2 ⟨ia, icap, rfl, hoin, hbW2⟩
      have hsW2 := hbW2.size
      have q2 : S1 b3 #[.slice va dl vcap, .int .i64 p] 28 W2 := Blk.below q1 hbW2 (by omega)
      refine ⟨q2, ?_⟩
      have ri := Row.mk' hoin
      replace ab := ab.below hbW2 ab.lt
      replace hk := hk.trans (hbW2.mono (by omega))
      refine wpAnyD_take (i := 5) (v := .agg #[.slice ia dl icap, .int .i64 p]) rfl (by kernel_rfl) (by kernel_rfl) (by kernel_rfl) (by kernel_rfl) (by kernel_rfl) (fun _ _ _ h => h) (.inl ⟨by kernel_rfl, fun W' hS => by go_simp⟩) q2 ?_
      refine wpAnyD_one (i := 7) (by kernel_rfl) rfl (by kernel_rfl) ?_
      go_simp
      refine (lent_any W2.heap.size _ d W2 ((HD.out.below hk1 (Nat.le_refl _)).below (K' := W2.heap.size) (hk.mono (by omega)) (by omega)) (Nat.le_refl _) (by omega)).mono ?_
      rintro e W3 ⟨la, lcap, rfl, hod, hbW3⟩
      have hsW3 := hbW3.size
      have q3x : S1 b3 #[.slice va dl vcap, .int .i64 p] 28 W3 := Blk.below q2 hbW3 (by omega)
      refine ⟨q3x, ?_⟩
      have rd := Row.mk' hod
      replace ri := ri.below hbW3
      replace ab := ab.below hbW3 ab.lt
      replace hk := hk.trans (hbW3.mono (by omega))
      obtain ⟨c0, c1, f0, f1⟩ := ab.two
      refine wpAnyD_one (i := 9) (by kernel_rfl) rfl (by kernel_rfl) ?_
      go_simp
      obtain ⟨W9, hW9, ab9, hp9, ha9, hz9⟩ := put2 ab (.slice ia dl icap) (.int .i64 p)
      have hri : Row W.heap.size W2.heap.size W9 (.slice ia (dl + 12) icap) (sd ++ marks 1 12) := ⟨(ri.own.keptP2 (ab.ne_own (by decide) ri.own) hW9).mono (by omega), fun b hb => by have := ri.hi b hb; omega⟩
      have hrd : Row W2.heap.size W9.heap.size W9 (.slice la (d.length + 12) lcap) (d ++ marks 1 12) := ⟨(rd.own.keptP2 (ab.ne_own (by decide) rd.own) hW9).mono (by omega), fun b hb => by have := rd.hi b hb; omega⟩
      rw [hW9]
      have q9' : S1 b3 #[.slice va dl vcap, .int .i64 p] 28 W9 := Blk.below q3x hp9 (by omega)
      refine ⟨q9', ?_⟩
      refine wpAnyD_one (i := 10) (by kernel_rfl) rfl (by kernel_rfl) ?_
      go_simp
      refine wpAnyD_done (by kernel_rfl) ?_ _
      go_wp2_with fail
      go_meet
      exact ⟨r, ia, icap, la, lcap, W2.heap.size, rfl, by omega, rfl, ab9, hri, hrd, by omega, by omega, hk.trans (hp9.mono (by omega))⟩
  case rest =>
    obtain ⟨wa, rfl⟩ : ∃ X : World, X = wc := ⟨_, rfl⟩
    obtain ⟨r7, ia, icap, la, lcap, mid, rfl, hr7, rfl, q7, ri, rd, hm1, hm2, hbx⟩ := hcut
    replace q3 := q3.below hbx hbW
    have hk : Below b3 w wa := hk1.trans (hbx.mono (by omega))
    have hsa := hbx.size
    clear hk1 hbx
    obtain ⟨c0, c1, f0, f1⟩ := q7.two
    have ris := ri.short (by simp [marks_length])
    rw [HDL.out] at ris
    have rds := rd.short (by simp [marks_length])
    go_wp2_with fail
    refine (HW.out wa.heap.size _ _ wa ris.own.byts rds.own.byts (Nat.le_refl _)).mono ?_
    rintro e V1a ⟨xa, xcap, rfl, ho1, hb1⟩
    have hsz1 := hb1.size
    replace q3 := q3.below hb1 q3.lt
    replace q7 := q7.below hb1 q7.lt
    replace ri := ri.below hb1
    replace rd := rd.below hb1
    replace hk := hk.trans (hb1.mono (by omega))
    have ra := Row.mk' ho1
    have hka1 : Below V1a.heap.size V1a (V1a.alloc (.cells #[.slice xa sa.data.length xcap, .int .i64 sa.power] 28)) := (Below.refl _ V1a).alloc (Nat.le_refl _) _
    replace q3 := q3.below hka1 q3.lt
    replace q7 := q7.below hka1 q7.lt
    replace ri := ri.below hka1
    replace rd := rd.below hka1
    replace ra := ra.below hka1
    replace hk := hk.trans (hka1.mono (by omega))
    have q9 := Blk.new V1a #[.slice xa sa.data.length xcap, .int .i64 sa.power] 28
    clear ho1 hb1 hka1 c0 c1 f0 f1 ris rds
    go_upto_region 3 with fail
    obtain ⟨V1, hW1⟩ : ∃ X, V1a.alloc (.cells #[.slice xa sa.data.length xcap, .int .i64 sa.power] 28) = X := ⟨_, rfl⟩
    have hsy1 : V1a.heap.size + 1 = V1.heap.size := by rw [← hW1]; simp
    obtain ⟨bq9, hx1⟩ : ∃ X, V1a.heap.size = X := ⟨_, rfl⟩
    rw [hW1] at q3 q7 q9 ri rd ra hk ⊢
    rw [hx1] at q9 ra hsz1 hsy1 ⊢
    clear hW1 hx1
    obtain ⟨c0, c1, f0, f1⟩ := q3.two
    go_wp2_with fail
    refine (store_any _ _ _ _ V1).mono ?_
    rintro e V2 ⟨rfl, hb2⟩
    have hsz2 := hb2.size
    replace q3 := q3.below hb2 q3.lt
    replace q7 := q7.below hb2 q7.lt
    replace q9 := q9.below hb2 q9.lt
    replace ri := ri.below hb2
    replace rd := rd.below hb2
    replace ra := ra.below hb2
    replace hk := hk.trans (hb2.mono (by omega))
    clear hb2 c0 c1 f0 f1
    go_wp2_with fail
    refine (HW2.out V2.heap.size _ _ V2 (HV.out.below (K' := V2.heap.size) hk (by omega)) (HD.out.below (K' := V2.heap.size) hk (by omega)) (Nat.le_refl _)).mono ?_
    rintro e V3a ⟨ya, ycap, rfl, ho3, hb3⟩
    have hsz3 := hb3.size
    replace q3 := q3.below hb3 q3.lt
    replace q7 := q7.below hb3 q7.lt
    replace q9 := q9.below hb3 q9.lt
    replace ri := ri.below hb3
    replace rd := rd.below hb3
    replace ra := ra.below hb3
    replace hk := hk.trans (hb3.mono (by omega))
    have rb := Row.mk' ho3
    have hka3 : Below V3a.heap.size V3a (V3a.alloc (.cells #[.slice ya sa.data.length ycap, .int .i64 sa.power] 39)) := (Below.refl _ V3a).alloc (Nat.le_refl _) _
    replace q3 := q3.below hka3 q3.lt
    replace q7 := q7.below hka3 q7.lt
    replace q9 := q9.below hka3 q9.lt
    replace ri := ri.below hka3
    replace rd := rd.below hka3
    replace ra := ra.below hka3
    replace rb := rb.below hka3
    replace hk := hk.trans (hka3.mono (by omega))
    have q11 := Blk.new V3a #[.slice ya sa.data.length ycap, .int .i64 sa.power] 39
    clear ho3 hb3 hka3 
    go_upto_region 4 with fail
    obtain ⟨V3, hW3⟩ : ∃ X, V3a.alloc (.cells #[.slice ya sa.data.length ycap, .int .i64 sa.power] 39) = X := ⟨_, rfl⟩
    have hsy3 : V3a.heap.size + 1 = V3.heap.size := by rw [← hW3]; simp
    obtain ⟨bq11, hx3⟩ : ∃ X, V3a.heap.size = X := ⟨_, rfl⟩
    rw [hW3] at q3 q7 q9 q11 ri rd ra rb hk ⊢
    rw [hx3] at q11 rb hsz3 hsy3 ⊢
    clear hW3 hx3
    obtain ⟨c0, c1, f0, f1⟩ := q7.two
    have ris := ri.short (by simp [marks_length])
    rw [HDL.out] at ris
    go_wp2_with fail
    refine (HC.out V3.heap.size _ V3 ris.own.byts (Nat.le_refl _)).mono ?_
    rintro e V4a ⟨za, zcap, rfl, ho4, hb4⟩
    have hsz4 := hb4.size
    replace q3 := q3.below hb4 q3.lt
    replace q7 := q7.below hb4 q7.lt
    replace q9 := q9.below hb4 q9.lt
    replace q11 := q11.below hb4 q11.lt
    replace ri := ri.below hb4
    replace rd := rd.below hb4
    replace ra := ra.below hb4
    replace rb := rb.below hb4
    replace hk := hk.trans (hb4.mono (by omega))
    have rc := Row.mk' ho4
    have hka4 : Below V4a.heap.size V4a (V4a.alloc (.cells #[.slice za sc.data.length zcap, .int .i64 sc.power] 28)) := (Below.refl _ V4a).alloc (Nat.le_refl _) _
    replace q3 := q3.below hka4 q3.lt
    replace q7 := q7.below hka4 q7.lt
    replace q9 := q9.below hka4 q9.lt
    replace q11 := q11.below hka4 q11.lt
    replace ri := ri.below hka4
    replace rd := rd.below hka4
    replace ra := ra.below hka4
    replace rb := rb.below hka4
    replace rc := rc.below hka4
    replace hk := hk.trans (hka4.mono (by omega))
    have q13 := Blk.new V4a #[.slice za sc.data.length zcap, .int .i64 sc.power] 28
    clear ho4 hb4 hka4 c0 c1 f0 f1 ris
    go_upto_region 5 with fail
    obtain ⟨V4, hW4⟩ : ∃ X, V4a.alloc (.cells #[.slice za sc.data.length zcap, .int .i64 sc.power] 28) = X := ⟨_, rfl⟩
    have hsy4 : V4a.heap.size + 1 = V4.heap.size := by rw [← hW4]; simp
    obtain ⟨bq13, hx4⟩ : ∃ X, V4a.heap.size = X := ⟨_, rfl⟩
    rw [hW4] at q3 q7 q9 q11 q13 ri rd ra rb rc hk ⊢
    rw [hx4] at q13 rc hsz4 hsy4 ⊢
    clear hW4 hx4
    obtain ⟨c0, c1, f0, f1⟩ := q3.two
    go_wp2_with fail
    refine (store_any _ _ _ _ V4).mono ?_
    rintro e V5 ⟨rfl, hb5⟩
    have hsz5 := hb5.size
    replace q3 := q3.below hb5 q3.lt
    replace q7 := q7.below hb5 q7.lt
    replace q9 := q9.below hb5 q9.lt
    replace q11 := q11.below hb5 q11.lt
    replace q13 := q13.below hb5 q13.lt
    replace ri := ri.below hb5
    replace rd := rd.below hb5
    replace ra := ra.below hb5
    replace rb := rb.below hb5
    replace rc := rc.below hb5
    replace hk := hk.trans (hb5.mono (by omega))
    clear hb5 c0 c1 f0 f1
    go_wp2_with fail
    refine (HC2.out V5.heap.size _ V5 (HV.out.below (K' := V5.heap.size) hk (by omega)) (Nat.le_refl _)).mono ?_
    rintro e V6a ⟨ta, tcap, rfl, ho6, hb6⟩
    have hsz6 := hb6.size
    replace q3 := q3.below hb6 q3.lt
    replace q7 := q7.below hb6 q7.lt
    replace q9 := q9.below hb6 q9.lt
    replace q11 := q11.below hb6 q11.lt
    replace q13 := q13.below hb6 q13.lt
    replace ri := ri.below hb6
    replace rd := rd.below hb6
    replace ra := ra.below hb6
    replace rb := rb.below hb6
    replace rc := rc.below hb6
    replace hk := hk.trans (hb6.mono (by omega))
    have re := Row.mk' ho6
    have hka6 : Below V6a.heap.size V6a (V6a.alloc (.cells #[.slice ta sc.data.length tcap, .int .i64 sc.power] 39)) := (Below.refl _ V6a).alloc (Nat.le_refl _) _
    replace q3 := q3.below hka6 q3.lt
    replace q7 := q7.below hka6 q7.lt
    replace q9 := q9.below hka6 q9.lt
    replace q11 := q11.below hka6 q11.lt
    replace q13 := q13.below hka6 q13.lt
    replace ri := ri.below hka6
    replace rd := rd.below hka6
    replace ra := ra.below hka6
    replace rb := rb.below hka6
    replace rc := rc.below hka6
    replace re := re.below hka6
    replace hk := hk.trans (hka6.mono (by omega))
    have q15 := Blk.new V6a #[.slice ta sc.data.length tcap, .int .i64 sc.power] 39
    clear ho6 hb6 hka6 
    go_upto_region 6 with fail
    obtain ⟨V6, hW6⟩ : ∃ X, V6a.alloc (.cells #[.slice ta sc.data.length tcap, .int .i64 sc.power] 39) = X := ⟨_, rfl⟩
    have hsy6 : V6a.heap.size + 1 = V6.heap.size := by rw [← hW6]; simp
    obtain ⟨bq15, hx6⟩ : ∃ X, V6a.heap.size = X := ⟨_, rfl⟩
    rw [hW6] at q3 q7 q9 q11 q13 q15 ri rd ra rb rc re hk ⊢
    rw [hx6] at q15 re hsz6 hsy6 ⊢
    clear hW6 hx6
    obtain ⟨c0, c1, f0, f1⟩ := q7.two
    have ris := ri.short (by simp [marks_length])
    rw [HDL.out] at ris
    go_wp2_with fail
    refine (HO.out V6.heap.size _ V6 ris.own.byts (Nat.le_refl _)).mono ?_
    rintro e V7a ⟨oa, ocap, pa, pcap, vsp, rfl, ho7, tp, hlp, hb7⟩
    have hsz7 := hb7.size
    replace q3 := q3.below hb7 q3.lt
    replace q7 := q7.below hb7 q7.lt
    replace q9 := q9.below hb7 q9.lt
    replace q11 := q11.below hb7 q11.lt
    replace q13 := q13.below hb7 q13.lt
    replace q15 := q15.below hb7 q15.lt
    replace ri := ri.below hb7
    replace rd := rd.below hb7
    replace ra := ra.below hb7
    replace rb := rb.below hb7
    replace rc := rc.below hb7
    replace re := re.below hb7
    replace hk := hk.trans (hb7.mono (by omega))
    have rl := Row.mk' ho7
    have hka7 : Below V7a.heap.size V7a (V7a.alloc (.cells #[.slice oa La.st.data.length ocap, .int .i64 La.st.power, .int .i64 La.count, .bool La.down] 32)) := (Below.refl _ V7a).alloc (Nat.le_refl _) _
    replace q3 := q3.below hka7 q3.lt
    replace q7 := q7.below hka7 q7.lt
    replace q9 := q9.below hka7 q9.lt
    replace q11 := q11.below hka7 q11.lt
    replace q13 := q13.below hka7 q13.lt
    replace q15 := q15.below hka7 q15.lt
    replace ri := ri.below hka7
    replace rd := rd.below hka7
    replace ra := ra.below hka7
    replace rb := rb.below hka7
    replace rc := rc.below hka7
    replace re := re.below hka7
    replace rl := rl.below hka7
    replace tp := tp.below hka7
    replace hk := hk.trans (hka7.mono (by omega))
    have q17 := Blk.new V7a #[.slice oa La.st.data.length ocap, .int .i64 La.st.power, .int .i64 La.count, .bool La.down] 32
    clear ho7 hb7 hka7 c0 c1 f0 f1 ris
    go_upto_region 7 with fail
    obtain ⟨V7, hW7⟩ : ∃ X, V7a.alloc (.cells #[.slice oa La.st.data.length ocap, .int .i64 La.st.power, .int .i64 La.count, .bool La.down] 32) = X := ⟨_, rfl⟩
    have hsy7 : V7a.heap.size + 1 = V7.heap.size := by rw [← hW7]; simp
    obtain ⟨bq17, hx7⟩ : ∃ X, V7a.heap.size = X := ⟨_, rfl⟩
    rw [hW7] at q3 q7 q9 q11 q13 q15 q17 ri rd ra rb rc re rl tp hk ⊢
    rw [hx7] at q17 rl tp hsz7 hsy7 ⊢
    clear hW7 hx7
    obtain ⟨c0, c1, f0, f1⟩ := q3.two
    go_wp2_with fail
    refine (store_any _ _ _ _ V7).mono ?_
    rintro e V8 ⟨rfl, hb8⟩
    have hsz8 := hb8.size
    replace q3 := q3.below hb8 q3.lt
    replace q7 := q7.below hb8 q7.lt
    replace q9 := q9.below hb8 q9.lt
    replace q11 := q11.below hb8 q11.lt
    replace q13 := q13.below hb8 q13.lt
    replace q15 := q15.below hb8 q15.lt
    replace q17 := q17.below hb8 q17.lt
    replace ri := ri.below hb8
    replace rd := rd.below hb8
    replace ra := ra.below hb8
    replace rb := rb.below hb8
    replace rc := rc.below hb8
    replace re := re.below hb8
    replace rl := rl.below hb8
    replace tp := tp.below hb8
    replace hk := hk.trans (hb8.mono (by omega))
    clear hb8 c0 c1 f0 f1
    go_wp2_with fail
    refine (HO2.out V8.heap.size _ V8 (HV.out.below (K' := V8.heap.size) hk (by omega)) (Nat.le_refl _)).mono ?_
    rintro e V9a ⟨ga, gcap, ha, hcap, rfl, ho9, htq, hb9⟩
    have hsz9 := hb9.size
    replace q3 := q3.below hb9 q3.lt
    replace q7 := q7.below hb9 q7.lt
    replace q9 := q9.below hb9 q9.lt
    replace q11 := q11.below hb9 q11.lt
    replace q13 := q13.below hb9 q13.lt
    replace q15 := q15.below hb9 q15.lt
    replace q17 := q17.below hb9 q17.lt
    replace ri := ri.below hb9
    replace rd := rd.below hb9
    replace ra := ra.below hb9
    replace rb := rb.below hb9
    replace rc := rc.below hb9
    replace re := re.below hb9
    replace rl := rl.below hb9
    replace tp := tp.below hb9
    replace hk := hk.trans (hb9.mono (by omega))
    have rm := Row.mk' ho9
    obtain ⟨vsq, tq⟩ := Tx.of htq
    clear htq
    have hka9 : Below V9a.heap.size V9a (V9a.alloc (.cells #[.slice ga La.st.data.length gcap, .int .i64 La.st.power, .int .i64 La.count, .bool La.down] 49)) := (Below.refl _ V9a).alloc (Nat.le_refl _) _
    replace q3 := q3.below hka9 q3.lt
    replace q7 := q7.below hka9 q7.lt
    replace q9 := q9.below hka9 q9.lt
    replace q11 := q11.below hka9 q11.lt
    replace q13 := q13.below hka9 q13.lt
    replace q15 := q15.below hka9 q15.lt
    replace q17 := q17.below hka9 q17.lt
    replace ri := ri.below hka9
    replace rd := rd.below hka9
    replace ra := ra.below hka9
    replace rb := rb.below hka9
    replace rc := rc.below hka9
    replace re := re.below hka9
    replace rl := rl.below hka9
    replace tp := tp.below hka9
    replace rm := rm.below hka9
    replace tq := tq.below hka9
    replace hk := hk.trans (hka9.mono (by omega))
    have q20 := Blk.new V9a #[.slice ga La.st.data.length gcap, .int .i64 La.st.power, .int .i64 La.count, .bool La.down] 49
    clear ho9 hb9 hka9 
    go_upto_region 8 with fail
    obtain ⟨V9, hW9⟩ : ∃ X, V9a.alloc (.cells #[.slice ga La.st.data.length gcap, .int .i64 La.st.power, .int .i64 La.count, .bool La.down] 49) = X := ⟨_, rfl⟩
    have hsy9 : V9a.heap.size + 1 = V9.heap.size := by rw [← hW9]; simp
    obtain ⟨bq20, hx9⟩ : ∃ X, V9a.heap.size = X := ⟨_, rfl⟩
    rw [hW9] at q3 q7 q9 q11 q13 q15 q17 q20 ri rd ra rb rc re rl tp rm tq hk ⊢
    rw [hx9] at q20 rm tq hsz9 hsy9 ⊢
    clear hW9 hx9
    have rds := rd.short (by simp [marks_length])
    go_wp2_with fail
    refine (HF.out V9.heap.size _ V9 rds.own.byts (Nat.le_refl _)).mono ?_
    rintro e V10 ⟨fa, fcap, rfl, ho10, hb10⟩
    have hsz10 := hb10.size
    replace q3 := q3.below hb10 q3.lt
    replace q7 := q7.below hb10 q7.lt
    replace q9 := q9.below hb10 q9.lt
    replace q11 := q11.below hb10 q11.lt
    replace q13 := q13.below hb10 q13.lt
    replace q15 := q15.below hb10 q15.lt
    replace q17 := q17.below hb10 q17.lt
    replace q20 := q20.below hb10 q20.lt
    replace ri := ri.below hb10
    replace rd := rd.below hb10
    replace ra := ra.below hb10
    replace rb := rb.below hb10
    replace rc := rc.below hb10
    replace re := re.below hb10
    replace rl := rl.below hb10
    replace tp := tp.below hb10
    replace rm := rm.below hb10
    replace tq := tq.below hb10
    replace hk := hk.trans (hb10.mono (by omega))
    have rx := Row.mk' ho10
    clear ho10 hb10 rds
    go_upto_region 9 with fail
    go_wp2_with fail
    refine (HF2.out V10.heap.size _ V10 (HD.out.below (K' := V10.heap.size) hk (by omega)) (Nat.le_refl _)).mono ?_
    rintro e V11 ⟨ka, kcap, rfl, ho11, hb11⟩
    have hsz11 := hb11.size
    replace q3 := q3.below hb11 q3.lt
    replace q7 := q7.below hb11 q7.lt
    replace q9 := q9.below hb11 q9.lt
    replace q11 := q11.below hb11 q11.lt
    replace q13 := q13.below hb11 q13.lt
    replace q15 := q15.below hb11 q15.lt
    replace q17 := q17.below hb11 q17.lt
    replace q20 := q20.below hb11 q20.lt
    replace ri := ri.below hb11
    replace rd := rd.below hb11
    replace ra := ra.below hb11
    replace rb := rb.below hb11
    replace rc := rc.below hb11
    replace re := re.below hb11
    replace rl := rl.below hb11
    replace tp := tp.below hb11
    replace rm := rm.below hb11
    replace tq := tq.below hb11
    replace rx := rx.below hb11
    replace hk := hk.trans (hb11.mono (by omega))
    have ry := Row.mk' ho11
    clear ho11 hb11 
    go_upto_region 10 with fail
    obtain ⟨c0, c1, f0, f1⟩ := q7.two
    have ris := ri.short (by simp [marks_length])
    rw [HDL.out] at ris
    go_wp2_with fail
    refine (HS.out 0 _ V11 ris.own.byts).mono ?_
    rintro e V12 ⟨uv, rfl, ho12, hb12⟩
    have hsz12 := hb12.size
    replace q3 := q3.below hb12 q3.lt
    replace q7 := q7.below hb12 q7.lt
    replace q9 := q9.below hb12 q9.lt
    replace q11 := q11.below hb12 q11.lt
    replace q13 := q13.below hb12 q13.lt
    replace q15 := q15.below hb12 q15.lt
    replace q17 := q17.below hb12 q17.lt
    replace q20 := q20.below hb12 q20.lt
    replace ri := ri.below hb12
    replace rd := rd.below hb12
    replace ra := ra.below hb12
    replace rb := rb.below hb12
    replace rc := rc.below hb12
    replace re := re.below hb12
    replace rl := rl.below hb12
    replace tp := tp.below hb12
    replace rm := rm.below hb12
    replace tq := tq.below hb12
    replace rx := rx.below hb12
    replace ry := ry.below hb12
    replace hk := hk.trans (hb12.mono (by omega))
    obtain ⟨vstu, tu⟩ := Tx.of ho12
    obtain ⟨atu, ctu, rfl, _, _⟩ := tu.form
    clear ho12 hb12 c0 c1 f0 f1 ris
    go_upto_region 11 with fail
    obtain ⟨c0, c1, f0, f1⟩ := q3.two
    go_wp2_with fail
    refine (HS2.out V12.heap.size _ V12 (HV.out.below (K' := V12.heap.size) hk (by omega)) (Nat.le_refl _)).mono ?_
    rintro e V13 ⟨wv, rfl, ho13, hb13⟩
    have hsz13 := hb13.size
    replace q3 := q3.below hb13 q3.lt
    replace q7 := q7.below hb13 q7.lt
    replace q9 := q9.below hb13 q9.lt
    replace q11 := q11.below hb13 q11.lt
    replace q13 := q13.below hb13 q13.lt
    replace q15 := q15.below hb13 q15.lt
    replace q17 := q17.below hb13 q17.lt
    replace q20 := q20.below hb13 q20.lt
    replace ri := ri.below hb13
    replace rd := rd.below hb13
    replace ra := ra.below hb13
    replace rb := rb.below hb13
    replace rc := rc.below hb13
    replace re := re.below hb13
    replace rl := rl.below hb13
    replace tp := tp.below hb13
    replace rm := rm.below hb13
    replace tq := tq.below hb13
    replace rx := rx.below hb13
    replace ry := ry.below hb13
    replace tu := tu.below hb13
    replace hk := hk.trans (hb13.mono (by omega))
    obtain ⟨vstv, tv⟩ := Tx.of ho13
    obtain ⟨atv, ctv, rfl, _, _⟩ := tv.form
    clear ho13 hb13 c0 c1 f0 f1
    go_upto_region 12 with fail
    refine region_plain (SB V13.heap.size bq9 #[.slice xa sa.data.length xcap, .int .i64 sa.power] 28 bq11 #[.slice ya sa.data.length ycap, .int .i64 sa.power] 39 bq13 #[.slice za sc.data.length zcap, .int .i64 sc.power] 28 bq15 #[.slice ta sc.data.length tcap, .int .i64 sc.power] 39 bq17 #[.slice oa La.st.data.length ocap, .int .i64 La.st.power, .int .i64 La.count, .bool La.down] 32 bq20 #[.slice ga La.st.data.length gcap, .int .i64 La.st.power, .int .i64 La.count, .bool La.down] 49 r7 #[.slice ia dl icap, .int .i64 p] 28 b3 #[.slice va dl vcap, .int .i64 p] 28 (.slice fa fx.length fcap) (.slice ka fx.length kcap) fx) [] (by kernel_rfl) ?_
    have s0 : SB V13.heap.size bq9 #[.slice xa sa.data.length xcap, .int .i64 sa.power] 28 bq11 #[.slice ya sa.data.length ycap, .int .i64 sa.power] 39 bq13 #[.slice za sc.data.length zcap, .int .i64 sc.power] 28 bq15 #[.slice ta sc.data.length tcap, .int .i64 sc.power] 39 bq17 #[.slice oa La.st.data.length ocap, .int .i64 La.st.power, .int .i64 La.count, .bool La.down] 32 bq20 #[.slice ga La.st.data.length gcap, .int .i64 La.st.power, .int .i64 La.count, .bool La.down] 49 r7 #[.slice ia dl icap, .int .i64 p] 28 b3 #[.slice va dl vcap, .int .i64 p] 28 (.slice fa fx.length fcap) (.slice ka fx.length kcap) fx V13.drew := ⟨q9, q11, q13, q15, q17, q20, q7, q3, rx.own.byts, ry.own.byts, Nat.le_refl _⟩
    obtain ⟨X0, hX0⟩ : ∃ X, V13.drew = X := ⟨_, rfl⟩
    have hd0 : Below V13.heap.size V13 X0 := hX0 ▸ (Below.refl _ V13).drew
    have hszX0 := hd0.size
    rw [hX0] at s0 ⊢
    clear hX0
    replace q3 := q3.below hd0 q3.lt
    replace q7 := q7.below hd0 q7.lt
    replace q9 := q9.below hd0 q9.lt
    replace q11 := q11.below hd0 q11.lt
    replace q13 := q13.below hd0 q13.lt
    replace q15 := q15.below hd0 q15.lt
    replace q17 := q17.below hd0 q17.lt
    replace q20 := q20.below hd0 q20.lt
    replace ri := ri.below hd0
    replace rd := rd.below hd0
    replace ra := ra.below hd0
    replace rb := rb.below hd0
    replace rc := rc.below hd0
    replace re := re.below hd0
    replace rl := rl.below hd0
    replace tp := tp.below hd0
    replace rm := rm.below hd0
    replace tq := tq.below hd0
    replace rx := rx.below hd0
    replace ry := ry.below hd0
    replace tu := tu.below hd0
    replace tv := tv.below hd0
    replace hk := hk.trans (hd0.mono (by omega))
    refine wpAnyD_take (i := 0) (v := .int .i64 ea) rfl (by kernel_rfl) (by kernel_rfl) (by kernel_rfl) (by kernel_rfl) (by kernel_rfl) (fun _ _ _ h => h) (.inl ⟨by kernel_rfl, fun W' hS => by go_simp⟩) s0 ?_
    refine wpAnyD_take (i := 1) (v := .int .i64 ea) rfl (by kernel_rfl) (by kernel_rfl) (by kernel_rfl) (by kernel_rfl) (by kernel_rfl) (fun _ _ _ h => h) (.inl ⟨by kernel_rfl, fun W' hS => by go_simp⟩) s0 ?_
    refine wpAnyD_take (i := 2) (v := .bool false) rfl (by kernel_rfl) (by kernel_rfl) (by kernel_rfl) (by kernel_rfl) (by kernel_rfl) (fun _ _ _ h => h) (.inl ⟨by kernel_rfl, fun W' hS => by go_simp⟩) s0 ?_
    refine wpAnyD_take (i := 3) (v := .bool false) rfl (by kernel_rfl) (by kernel_rfl) (by kernel_rfl) (by kernel_rfl) (by kernel_rfl) (fun _ _ _ h => h) (.inl ⟨by kernel_rfl, fun W' hS => by go_simp⟩) s0 ?_
    refine wpAnyD_take (i := 4) (v := .int .i64 ec) rfl (by kernel_rfl) (by kernel_rfl) (by kernel_rfl) (by kernel_rfl) (by kernel_rfl) (fun _ _ _ h => h) (.inl ⟨by kernel_rfl, fun W' hS => by go_simp⟩) s0 ?_
    refine wpAnyD_take (i := 5) (v := .int .i64 ec) rfl (by kernel_rfl) (by kernel_rfl) (by kernel_rfl) (by kernel_rfl) (by kernel_rfl) (fun _ _ _ h => h) (.inl ⟨by kernel_rfl, fun W' hS => by go_simp⟩) s0 ?_
    refine wpAnyD_take (i := 6) (v := .bool false) rfl (by kernel_rfl) (by kernel_rfl) (by kernel_rfl) (by kernel_rfl) (by kernel_rfl) (fun _ _ _ h => h) (.inl ⟨by kernel_rfl, fun W' hS => by go_simp⟩) s0 ?_
    refine wpAnyD_take (i := 7) (v := .bool false) rfl (by kernel_rfl) (by kernel_rfl) (by kernel_rfl) (by kernel_rfl) (by kernel_rfl) (fun _ _ _ h => h) (.inl ⟨by kernel_rfl, fun W' hS => by go_simp⟩) s0 ?_
    refine wpAnyD_take (i := 8) (v := .bool false) rfl (by kernel_rfl) (by kernel_rfl) (by kernel_rfl) (by kernel_rfl) (by kernel_rfl) (fun _ _ _ h => h) (.inl ⟨by kernel_rfl, fun W' hS => by go_simp⟩) s0 ?_
    refine wpAnyD_take (i := 9) (v := .int .i64 eo) rfl (by kernel_rfl) (by kernel_rfl) (by kernel_rfl) (by kernel_rfl) (by kernel_rfl) (fun _ _ _ h => h) (.inl ⟨by kernel_rfl, fun W' hS => by go_simp⟩) s0 ?_
    refine wpAnyD_take (i := 10) (v := .int .i64 eo) rfl (by kernel_rfl) (by kernel_rfl) (by kernel_rfl) (by kernel_rfl) (by kernel_rfl) (fun _ _ _ h => h) (.inl ⟨by kernel_rfl, fun W' hS => by go_simp⟩) s0 ?_
    refine wpAnyD_take (i := 11) (v := .bool false) rfl (by kernel_rfl) (by kernel_rfl) (by kernel_rfl) (by kernel_rfl) (by kernel_rfl) (fun _ _ _ h => h) (.inl ⟨by kernel_rfl, fun W' hS => by go_simp⟩) s0 ?_
    refine wpAnyD_take (i := 12) (v := .bool false) rfl (by kernel_rfl) (by kernel_rfl) (by kernel_rfl) (by kernel_rfl) (by kernel_rfl) (fun _ _ _ h => h) (.inl ⟨by kernel_rfl, fun W' hS => by go_simp⟩) s0 ?_
    refine wpAnyD_take (i := 13) (v := .bool false) rfl (by kernel_rfl) (by kernel_rfl) (by kernel_rfl) (by kernel_rfl) (by kernel_rfl) (fun _ _ _ h => h) (.inl ⟨by kernel_rfl, fun W' hS => by go_simp⟩) s0 ?_
    refine wpAnyD_take (i := 14) (v := .int .i64 ef) rfl (by kernel_rfl) (by kernel_rfl) (by kernel_rfl) (by kernel_rfl) (by kernel_rfl) (fun _ _ _ h => h) (.inl ⟨by kernel_rfl, fun W' hS => by go_simp⟩) s0 ?_
    refine wpAnyD_take (i := 15) (v := .int .i64 ef) rfl (by kernel_rfl) (by kernel_rfl) (by kernel_rfl) (by kernel_rfl) (by kernel_rfl) (fun _ _ _ h => h) (.inl ⟨by kernel_rfl, fun W' hS => by go_simp⟩) s0 ?_
    refine wpAnyD_take (i := 16) (v := .bool false) rfl (by kernel_rfl) (by kernel_rfl) (by kernel_rfl) (by kernel_rfl) (by kernel_rfl) (fun _ _ _ h => h) (.inl ⟨by kernel_rfl, fun W' hS => by go_simp⟩) s0 ?_
    refine wpAnyD_take (i := 17) (v := .bool false) rfl (by kernel_rfl) (by kernel_rfl) (by kernel_rfl) (by kernel_rfl) (by kernel_rfl) (fun _ _ _ h => h) (.inl ⟨by kernel_rfl, fun W' hS => by go_simp⟩) s0 ?_
    refine wpAnyD_take (i := 18) (v := .bool false) rfl (by kernel_rfl) (by kernel_rfl) (by kernel_rfl) (by kernel_rfl) (by kernel_rfl) (fun _ _ _ h => h) (.inl ⟨by kernel_rfl, fun W' hS => by go_simp⟩) s0 ?_
    refine wpAnyD_take (i := 19) (v := .int .i64 (ue : Nat)) rfl (by kernel_rfl) (by kernel_rfl) (by kernel_rfl) (by kernel_rfl) (by kernel_rfl) (fun _ _ _ h => h) (.inl ⟨by kernel_rfl, fun W' hS => by go_simp⟩) s0 ?_
    refine wpAnyD_take (i := 20) (v := .int .i64 (ue : Nat)) rfl (by kernel_rfl) (by kernel_rfl) (by kernel_rfl) (by kernel_rfl) (by kernel_rfl) (fun _ _ _ h => h) (.inl ⟨by kernel_rfl, fun W' hS => by go_simp⟩) s0 ?_
    refine wpAnyD_take (i := 21) (v := .bool false) rfl (by kernel_rfl) (by kernel_rfl) (by kernel_rfl) (by kernel_rfl) (by kernel_rfl) (fun _ _ _ h => h) (.inl ⟨by kernel_rfl, fun W' hS => by go_simp⟩) s0 ?_
    refine wpAnyD_take (i := 22) (v := .bool false) rfl (by kernel_rfl) (by kernel_rfl) (by kernel_rfl) (by kernel_rfl) (by kernel_rfl) (fun _ _ _ h => h) (.inl ⟨by kernel_rfl, fun W' hS => by go_simp⟩) s0 ?_
    refine wpAnyD_take (i := 23) (v := .bool false) rfl (by kernel_rfl) (by kernel_rfl) (by kernel_rfl) (by kernel_rfl) (by kernel_rfl) (fun _ _ _ h => h) (.inl ⟨by kernel_rfl, fun W' hS => by go_simp⟩) s0 ?_
    refine wpAnyD_take (i := 24) (v := .agg #[.slice xa sa.data.length xcap, .int .i64 sa.power]) rfl (by kernel_rfl) (by kernel_rfl) (by kernel_rfl) (by kernel_rfl) (by kernel_rfl) (fun _ _ _ h => h) (.inl ⟨by kernel_rfl, fun W' hS => by obtain ⟨c0, c1, f0, f1⟩ := (hS.q1).two; go_simp⟩) s0 ?_
    refine wpAnyD_take (i := 26) (v := .agg #[.slice ya sa.data.length ycap, .int .i64 sa.power]) rfl (by kernel_rfl) (by kernel_rfl) (by kernel_rfl) (by kernel_rfl) (by kernel_rfl) (fun _ _ _ h => h) (.inl ⟨by kernel_rfl, fun W' hS => by obtain ⟨c0, c1, f0, f1⟩ := (hS.q2).two; go_simp⟩) s0 ?_
    refine wpAnyD_one (i := 25) (by kernel_rfl) rfl (by kernel_rfl) ?_
    go_simp
    refine (store_any _ _ _ _ X0).mono ?_
    rintro e X1 ⟨rfl, hbX1⟩
    have hszX1 := hbX1.size
    have s1 : SB V13.heap.size bq9 #[.slice xa sa.data.length xcap, .int .i64 sa.power] 28 bq11 #[.slice ya sa.data.length ycap, .int .i64 sa.power] 39 bq13 #[.slice za sc.data.length zcap, .int .i64 sc.power] 28 bq15 #[.slice ta sc.data.length tcap, .int .i64 sc.power] 39 bq17 #[.slice oa La.st.data.length ocap, .int .i64 La.st.power, .int .i64 La.count, .bool La.down] 32 bq20 #[.slice ga La.st.data.length gcap, .int .i64 La.st.power, .int .i64 La.count, .bool La.down] 49 r7 #[.slice ia dl icap, .int .i64 p] 28 b3 #[.slice va dl vcap, .int .i64 p] 28 (.slice fa fx.length fcap) (.slice ka fx.length kcap) fx X1 := s0.below hbX1
    replace q3 := q3.below hbX1 q3.lt
    replace q7 := q7.below hbX1 q7.lt
    replace q9 := q9.below hbX1 q9.lt
    replace q11 := q11.below hbX1 q11.lt
    replace q13 := q13.below hbX1 q13.lt
    replace q15 := q15.below hbX1 q15.lt
    replace q17 := q17.below hbX1 q17.lt
    replace q20 := q20.below hbX1 q20.lt
    replace ri := ri.below hbX1
    replace rd := rd.below hbX1
    replace ra := ra.below hbX1
    replace rb := rb.below hbX1
    replace rc := rc.below hbX1
    replace re := re.below hbX1
    replace rl := rl.below hbX1
    replace tp := tp.below hbX1
    replace rm := rm.below hbX1
    replace tq := tq.below hbX1
    replace rx := rx.below hbX1
    replace ry := ry.below hbX1
    replace tu := tu.below hbX1
    replace tv := tv.below hbX1
    replace hk := hk.trans (hbX1.mono (by omega))
    refine ⟨s1, ?_⟩
    clear hbX1
    refine wpAnyD_one (i := 27) (by kernel_rfl) rfl (by kernel_rfl) ?_
    go_simp
    refine (sameStore_same X1.heap.size _ _ sa X1 ra.own.byts rb.own.byts (Nat.le_refl _)).mono ?_
    rintro e X2 ⟨rfl, hbX2⟩
    have hszX2 := hbX2.size
    have s2 : SB V13.heap.size bq9 #[.slice xa sa.data.length xcap, .int .i64 sa.power] 28 bq11 #[.slice ya sa.data.length ycap, .int .i64 sa.power] 39 bq13 #[.slice za sc.data.length zcap, .int .i64 sc.power] 28 bq15 #[.slice ta sc.data.length tcap, .int .i64 sc.power] 39 bq17 #[.slice oa La.st.data.length ocap, .int .i64 La.st.power, .int .i64 La.count, .bool La.down] 32 bq20 #[.slice ga La.st.data.length gcap, .int .i64 La.st.power, .int .i64 La.count, .bool La.down] 49 r7 #[.slice ia dl icap, .int .i64 p] 28 b3 #[.slice va dl vcap, .int .i64 p] 28 (.slice fa fx.length fcap) (.slice ka fx.length kcap) fx X2 := s1.below hbX2
    replace q3 := q3.below hbX2 q3.lt
    replace q7 := q7.below hbX2 q7.lt
    replace q9 := q9.below hbX2 q9.lt
    replace q11 := q11.below hbX2 q11.lt
    replace q13 := q13.below hbX2 q13.lt
    replace q15 := q15.below hbX2 q15.lt
    replace q17 := q17.below hbX2 q17.lt
    replace q20 := q20.below hbX2 q20.lt
    replace ri := ri.below hbX2
    replace rd := rd.below hbX2
    replace ra := ra.below hbX2
    replace rb := rb.below hbX2
    replace rc := rc.below hbX2
    replace re := re.below hbX2
    replace rl := rl.below hbX2
    replace tp := tp.below hbX2
    replace rm := rm.below hbX2
    replace tq := tq.below hbX2
    replace rx := rx.below hbX2
    replace ry := ry.below hbX2
    replace tu := tu.below hbX2
    replace tv := tv.below hbX2
    replace hk := hk.trans (hbX2.mono (by omega))
    refine ⟨s2, ?_⟩
    clear hbX2
    refine wpAnyD_take (i := 28) (v := .bool false) rfl (by kernel_rfl) (by kernel_rfl) (by kernel_rfl) (by kernel_rfl) (by kernel_rfl) (fun _ _ _ h => h) (.inl ⟨by kernel_rfl, fun W' hS => by go_simp⟩) s2 ?_
    refine wpAnyD_take (i := 29) (v := .bool false) rfl (by kernel_rfl) (by kernel_rfl) (by kernel_rfl) (by kernel_rfl) (by kernel_rfl) (fun _ _ _ h => h) (.inl ⟨by kernel_rfl, fun W' hS => by go_simp⟩) s2 ?_
    refine wpAnyD_take (i := 30) (v := .bool false) rfl (by kernel_rfl) (by kernel_rfl) (by kernel_rfl) (by kernel_rfl) (by kernel_rfl) (fun _ _ _ h => h) (.inl ⟨by kernel_rfl, fun W' hS => by go_simp⟩) s2 ?_
    refine wpAnyD_take (i := 31) (v := .agg #[.slice za sc.data.length zcap, .int .i64 sc.power]) rfl (by kernel_rfl) (by kernel_rfl) (by kernel_rfl) (by kernel_rfl) (by kernel_rfl) (fun _ _ _ h => h) (.inl ⟨by kernel_rfl, fun W' hS => by obtain ⟨c0, c1, f0, f1⟩ := (hS.q3).two; go_simp⟩) s2 ?_
    refine wpAnyD_take (i := 33) (v := .agg #[.slice ta sc.data.length tcap, .int .i64 sc.power]) rfl (by kernel_rfl) (by kernel_rfl) (by kernel_rfl) (by kernel_rfl) (by kernel_rfl) (fun _ _ _ h => h) (.inl ⟨by kernel_rfl, fun W' hS => by obtain ⟨c0, c1, f0, f1⟩ := (hS.q4).two; go_simp⟩) s2 ?_
    refine wpAnyD_one (i := 32) (by kernel_rfl) rfl (by kernel_rfl) ?_
    go_simp
    refine (store_any _ _ _ _ X2).mono ?_
    rintro e X3 ⟨rfl, hbX3⟩
    have hszX3 := hbX3.size
    have s3 : SB V13.heap.size bq9 #[.slice xa sa.data.length xcap, .int .i64 sa.power] 28 bq11 #[.slice ya sa.data.length ycap, .int .i64 sa.power] 39 bq13 #[.slice za sc.data.length zcap, .int .i64 sc.power] 28 bq15 #[.slice ta sc.data.length tcap, .int .i64 sc.power] 39 bq17 #[.slice oa La.st.data.length ocap, .int .i64 La.st.power, .int .i64 La.count, .bool La.down] 32 bq20 #[.slice ga La.st.data.length gcap, .int .i64 La.st.power, .int .i64 La.count, .bool La.down] 49 r7 #[.slice ia dl icap, .int .i64 p] 28 b3 #[.slice va dl vcap, .int .i64 p] 28 (.slice fa fx.length fcap) (.slice ka fx.length kcap) fx X3 := s2.below hbX3
    replace q3 := q3.below hbX3 q3.lt
    replace q7 := q7.below hbX3 q7.lt
    replace q9 := q9.below hbX3 q9.lt
    replace q11 := q11.below hbX3 q11.lt
    replace q13 := q13.below hbX3 q13.lt
    replace q15 := q15.below hbX3 q15.lt
    replace q17 := q17.below hbX3 q17.lt
    replace q20 := q20.below hbX3 q20.lt
    replace ri := ri.below hbX3
    replace rd := rd.below hbX3
    replace ra := ra.below hbX3
    replace rb := rb.below hbX3
    replace rc := rc.below hbX3
    replace re := re.below hbX3
    replace rl := rl.below hbX3
    replace tp := tp.below hbX3
    replace rm := rm.below hbX3
    replace tq := tq.below hbX3
    replace rx := rx.below hbX3
    replace ry := ry.below hbX3
    replace tu := tu.below hbX3
    replace tv := tv.below hbX3
    replace hk := hk.trans (hbX3.mono (by omega))
    refine ⟨s3, ?_⟩
    clear hbX3
    refine wpAnyD_one (i := 34) (by kernel_rfl) rfl (by kernel_rfl) ?_
    go_simp
    refine (sameStore_same X3.heap.size _ _ sc X3 rc.own.byts re.own.byts (Nat.le_refl _)).mono ?_
    rintro e X4 ⟨rfl, hbX4⟩
    have hszX4 := hbX4.size
    have s4 : SB V13.heap.size bq9 #[.slice xa sa.data.length xcap, .int .i64 sa.power] 28 bq11 #[.slice ya sa.data.length ycap, .int .i64 sa.power] 39 bq13 #[.slice za sc.data.length zcap, .int .i64 sc.power] 28 bq15 #[.slice ta sc.data.length tcap, .int .i64 sc.power] 39 bq17 #[.slice oa La.st.data.length ocap, .int .i64 La.st.power, .int .i64 La.count, .bool La.down] 32 bq20 #[.slice ga La.st.data.length gcap, .int .i64 La.st.power, .int .i64 La.count, .bool La.down] 49 r7 #[.slice ia dl icap, .int .i64 p] 28 b3 #[.slice va dl vcap, .int .i64 p] 28 (.slice fa fx.length fcap) (.slice ka fx.length kcap) fx X4 := s3.below hbX4
    replace q3 := q3.below hbX4 q3.lt
    replace q7 := q7.below hbX4 q7.lt
    replace q9 := q9.below hbX4 q9.lt
    replace q11 := q11.below hbX4 q11.lt
    replace q13 := q13.below hbX4 q13.lt
    replace q15 := q15.below hbX4 q15.lt
    replace q17 := q17.below hbX4 q17.lt
    replace q20 := q20.below hbX4 q20.lt
    replace ri := ri.below hbX4
    replace rd := rd.below hbX4
    replace ra := ra.below hbX4
    replace rb := rb.below hbX4
    replace rc := rc.below hbX4
    replace re := re.below hbX4
    replace rl := rl.below hbX4
    replace tp := tp.below hbX4
    replace rm := rm.below hbX4
    replace tq := tq.below hbX4
    replace rx := rx.below hbX4
    replace ry := ry.below hbX4
    replace tu := tu.below hbX4
    replace tv := tv.below hbX4
    replace hk := hk.trans (hbX4.mono (by omega))
    refine ⟨s4, ?_⟩
    clear hbX4
    refine wpAnyD_take (i := 35) (v := .bool false) rfl (by kernel_rfl) (by kernel_rfl) (by kernel_rfl) (by kernel_rfl) (by kernel_rfl) (fun _ _ _ h => h) (.inl ⟨by kernel_rfl, fun W' hS => by go_simp⟩) s4 ?_
    refine wpAnyD_take (i := 36) (v := .bool false) rfl (by kernel_rfl) (by kernel_rfl) (by kernel_rfl) (by kernel_rfl) (by kernel_rfl) (fun _ _ _ h => h) (.inl ⟨by kernel_rfl, fun W' hS => by go_simp⟩) s4 ?_
    refine wpAnyD_take (i := 37) (v := .bool false) rfl (by kernel_rfl) (by kernel_rfl) (by kernel_rfl) (by kernel_rfl) (by kernel_rfl) (fun _ _ _ h => h) (.inl ⟨by kernel_rfl, fun W' hS => by go_simp⟩) s4 ?_
    refine wpAnyD_take (i := 38) (v := .agg #[.slice oa La.st.data.length ocap, .int .i64 La.st.power, .int .i64 La.count, .bool La.down]) rfl (by kernel_rfl) (by kernel_rfl) (by kernel_rfl) (by kernel_rfl) (by kernel_rfl) (fun _ _ _ h => h) (.inl ⟨by kernel_rfl, fun W' hS => by obtain ⟨c0, c1, c2, c3, f0, f1, f2, f3⟩ := (hS.q5).four; go_simp⟩) s4 ?_
    refine wpAnyD_take (i := 40) (v := .agg #[.slice ga La.st.data.length gcap, .int .i64 La.st.power, .int .i64 La.count, .bool La.down]) rfl (by kernel_rfl) (by kernel_rfl) (by kernel_rfl) (by kernel_rfl) (by kernel_rfl) (fun _ _ _ h => h) (.inl ⟨by kernel_rfl, fun W' hS => by obtain ⟨c0, c1, c2, c3, f0, f1, f2, f3⟩ := (hS.q6).four; go_simp⟩) s4 ?_
    refine wpAnyD_one (i := 39) (by kernel_rfl) rfl (by kernel_rfl) ?_
    go_simp
    refine (plain_any _ _ _ _ _ _ X4).mono ?_
    rintro e X5 ⟨rfl, hbX5⟩
    have hszX5 := hbX5.size
    have s5 : SB V13.heap.size bq9 #[.slice xa sa.data.length xcap, .int .i64 sa.power] 28 bq11 #[.slice ya sa.data.length ycap, .int .i64 sa.power] 39 bq13 #[.slice za sc.data.length zcap, .int .i64 sc.power] 28 bq15 #[.slice ta sc.data.length tcap, .int .i64 sc.power] 39 bq17 #[.slice oa La.st.data.length ocap, .int .i64 La.st.power, .int .i64 La.count, .bool La.down] 32 bq20 #[.slice ga La.st.data.length gcap, .int .i64 La.st.power, .int .i64 La.count, .bool La.down] 49 r7 #[.slice ia dl icap, .int .i64 p] 28 b3 #[.slice va dl vcap, .int .i64 p] 28 (.slice fa fx.length fcap) (.slice ka fx.length kcap) fx X5 := s4.below hbX5
    replace q3 := q3.below hbX5 q3.lt
    replace q7 := q7.below hbX5 q7.lt
    replace q9 := q9.below hbX5 q9.lt
    replace q11 := q11.below hbX5 q11.lt
    replace q13 := q13.below hbX5 q13.lt
    replace q15 := q15.below hbX5 q15.lt
    replace q17 := q17.below hbX5 q17.lt
    replace q20 := q20.below hbX5 q20.lt
    replace ri := ri.below hbX5
    replace rd := rd.below hbX5
    replace ra := ra.below hbX5
    replace rb := rb.below hbX5
    replace rc := rc.below hbX5
    replace re := re.below hbX5
    replace rl := rl.below hbX5
    replace tp := tp.below hbX5
    replace rm := rm.below hbX5
    replace tq := tq.below hbX5
    replace rx := rx.below hbX5
    replace ry := ry.below hbX5
    replace tu := tu.below hbX5
    replace tv := tv.below hbX5
    replace hk := hk.trans (hbX5.mono (by omega))
    refine ⟨s5, ?_⟩
    clear hbX5
    refine wpAnyD_one (i := 41) (by kernel_rfl) rfl (by kernel_rfl) ?_
    go_simp
    refine (sameLog_same X5.heap.size _ _ La X5 rl.own.byts rm.own.byts (Nat.le_refl _)).mono ?_
    rintro e X6 ⟨rfl, hbX6⟩
    have hszX6 := hbX6.size
    have s6 : SB V13.heap.size bq9 #[.slice xa sa.data.length xcap, .int .i64 sa.power] 28 bq11 #[.slice ya sa.data.length ycap, .int .i64 sa.power] 39 bq13 #[.slice za sc.data.length zcap, .int .i64 sc.power] 28 bq15 #[.slice ta sc.data.length tcap, .int .i64 sc.power] 39 bq17 #[.slice oa La.st.data.length ocap, .int .i64 La.st.power, .int .i64 La.count, .bool La.down] 32 bq20 #[.slice ga La.st.data.length gcap, .int .i64 La.st.power, .int .i64 La.count, .bool La.down] 49 r7 #[.slice ia dl icap, .int .i64 p] 28 b3 #[.slice va dl vcap, .int .i64 p] 28 (.slice fa fx.length fcap) (.slice ka fx.length kcap) fx X6 := s5.below hbX6
    replace q3 := q3.below hbX6 q3.lt
    replace q7 := q7.below hbX6 q7.lt
    replace q9 := q9.below hbX6 q9.lt
    replace q11 := q11.below hbX6 q11.lt
    replace q13 := q13.below hbX6 q13.lt
    replace q15 := q15.below hbX6 q15.lt
    replace q17 := q17.below hbX6 q17.lt
    replace q20 := q20.below hbX6 q20.lt
    replace ri := ri.below hbX6
    replace rd := rd.below hbX6
    replace ra := ra.below hbX6
    replace rb := rb.below hbX6
    replace rc := rc.below hbX6
    replace re := re.below hbX6
    replace rl := rl.below hbX6
    replace tp := tp.below hbX6
    replace rm := rm.below hbX6
    replace tq := tq.below hbX6
    replace rx := rx.below hbX6
    replace ry := ry.below hbX6
    replace tu := tu.below hbX6
    replace tv := tv.below hbX6
    replace hk := hk.trans (hbX6.mono (by omega))
    refine ⟨s6, ?_⟩
    clear hbX6
    refine wpAnyD_take (i := 42) (v := .bool false) rfl (by kernel_rfl) (by kernel_rfl) (by kernel_rfl) (by kernel_rfl) (by kernel_rfl) (fun _ _ _ h => h) (.inl ⟨by kernel_rfl, fun W' hS => by go_simp⟩) s6 ?_
    refine wpAnyD_take (i := 43) (v := .bool false) rfl (by kernel_rfl) (by kernel_rfl) (by kernel_rfl) (by kernel_rfl) (by kernel_rfl) (fun _ _ _ h => h) (.inl ⟨by kernel_rfl, fun W' hS => by go_simp⟩) s6 ?_
    refine wpAnyD_take (i := 44) (v := .bool false) rfl (by kernel_rfl) (by kernel_rfl) (by kernel_rfl) (by kernel_rfl) (by kernel_rfl) (fun _ _ _ h => h) (.inl ⟨by kernel_rfl, fun W' hS => by go_simp⟩) s6 ?_
    refine wpAnyD_take (i := 45) (v := .slice pa qs.length pcap) rfl (by kernel_rfl) (by kernel_rfl) (by kernel_rfl) (by kernel_rfl) (by kernel_rfl) (fun _ _ _ h => h) (.inl ⟨by kernel_rfl, fun W' hS => by go_simp⟩) s6 ?_
    refine wpAnyD_take (i := 46) (v := .slice ha qs.length hcap) rfl (by kernel_rfl) (by kernel_rfl) (by kernel_rfl) (by kernel_rfl) (by kernel_rfl) (fun _ _ _ h => h) (.inl ⟨by kernel_rfl, fun W' hS => by go_simp⟩) s6 ?_
    refine wpAnyD_one (i := 47) (by kernel_rfl) rfl (by kernel_rfl) ?_
    go_simp
    refine (sameTexts_any X6.heap.size _ _ qs qs X6 tp.txts tq.txts).mono ?_
    rintro e X7 ⟨rfl, zX7, rfl⟩
    simp only [decide_true]
    have hbX7 := below_drewN' (B := X6.heap.size) (w := X6) zX7
    obtain ⟨X7, hXX7⟩ : ∃ X, X6.drewN zX7 = X := ⟨_, rfl⟩
    have hszX7 : X6.heap.size = X7.heap.size := by rw [← hXX7]; rfl
    rw [hXX7] at hbX7 ⊢
    clear hXX7
    have s7 : SB V13.heap.size bq9 #[.slice xa sa.data.length xcap, .int .i64 sa.power] 28 bq11 #[.slice ya sa.data.length ycap, .int .i64 sa.power] 39 bq13 #[.slice za sc.data.length zcap, .int .i64 sc.power] 28 bq15 #[.slice ta sc.data.length tcap, .int .i64 sc.power] 39 bq17 #[.slice oa La.st.data.length ocap, .int .i64 La.st.power, .int .i64 La.count, .bool La.down] 32 bq20 #[.slice ga La.st.data.length gcap, .int .i64 La.st.power, .int .i64 La.count, .bool La.down] 49 r7 #[.slice ia dl icap, .int .i64 p] 28 b3 #[.slice va dl vcap, .int .i64 p] 28 (.slice fa fx.length fcap) (.slice ka fx.length kcap) fx X7 := s6.below hbX7
    replace q3 := q3.below hbX7 q3.lt
    replace q7 := q7.below hbX7 q7.lt
    replace q9 := q9.below hbX7 q9.lt
    replace q11 := q11.below hbX7 q11.lt
    replace q13 := q13.below hbX7 q13.lt
    replace q15 := q15.below hbX7 q15.lt
    replace q17 := q17.below hbX7 q17.lt
    replace q20 := q20.below hbX7 q20.lt
    replace ri := ri.below hbX7
    replace rd := rd.below hbX7
    replace ra := ra.below hbX7
    replace rb := rb.below hbX7
    replace rc := rc.below hbX7
    replace re := re.below hbX7
    replace rl := rl.below hbX7
    replace tp := tp.below hbX7
    replace rm := rm.below hbX7
    replace tq := tq.below hbX7
    replace rx := rx.below hbX7
    replace ry := ry.below hbX7
    replace tu := tu.below hbX7
    replace tv := tv.below hbX7
    replace hk := hk.trans (hbX7.mono (by omega))
    refine ⟨s7, ?_⟩
    clear hbX7
    refine wpAnyD_take (i := 48) (v := .bool false) rfl (by kernel_rfl) (by kernel_rfl) (by kernel_rfl) (by kernel_rfl) (by kernel_rfl) (fun _ _ _ h => h) (.inl ⟨by kernel_rfl, fun W' hS => by go_simp⟩) s7 ?_
    refine wpAnyD_take (i := 49) (v := .bool false) rfl (by kernel_rfl) (by kernel_rfl) (by kernel_rfl) (by kernel_rfl) (by kernel_rfl) (fun _ _ _ h => h) (.inl ⟨by kernel_rfl, fun W' hS => by go_simp⟩) s7 ?_
    refine wpAnyD_take (i := 50) (v := .bool false) rfl (by kernel_rfl) (by kernel_rfl) (by kernel_rfl) (by kernel_rfl) (by kernel_rfl) (fun _ _ _ h => h) (.inl ⟨by kernel_rfl, fun W' hS => by go_simp⟩) s7 ?_
    refine wpAnyD_take (i := 51) (v := .slice fa fx.length fcap) rfl (by kernel_rfl) (by kernel_rfl) (by kernel_rfl) (by kernel_rfl) (by kernel_rfl) (fun _ _ _ h => h) (.inl ⟨by kernel_rfl, fun W' hS => by go_simp⟩) s7 ?_
    refine wpAnyD_take (i := 52) (v := .string ⟨fx.toArray⟩) rfl (by kernel_rfl) (by kernel_rfl) (by kernel_rfl) (by kernel_rfl) (by kernel_rfl) (fun _ _ _ h => h) (.inl ⟨by kernel_rfl, fun W' hS => by have g1 := conv_str hS.x; go_simp⟩) s7 ?_
    refine wpAnyD_take (i := 53) (v := .slice ka fx.length kcap) rfl (by kernel_rfl) (by kernel_rfl) (by kernel_rfl) (by kernel_rfl) (by kernel_rfl) (fun _ _ _ h => h) (.inl ⟨by kernel_rfl, fun W' hS => by go_simp⟩) s7 ?_
    refine wpAnyD_take (i := 54) (v := .string ⟨fx.toArray⟩) rfl (by kernel_rfl) (by kernel_rfl) (by kernel_rfl) (by kernel_rfl) (by kernel_rfl) (fun _ _ _ h => h) (.inl ⟨by kernel_rfl, fun W' hS => by have g1 := conv_str hS.y; go_simp⟩) s7 ?_
    refine wpAnyD_take (i := 55) (v := .bool false) rfl (by kernel_rfl) (by kernel_rfl) (by kernel_rfl) (by kernel_rfl) (by kernel_rfl) (fun _ _ _ h => h) (.inl ⟨by kernel_rfl, fun W' hS => by go_simp⟩) s7 ?_
    refine wpAnyD_take (i := 56) (v := .bool false) rfl (by kernel_rfl) (by kernel_rfl) (by kernel_rfl) (by kernel_rfl) (by kernel_rfl) (fun _ _ _ h => h) (.inl ⟨by kernel_rfl, fun W' hS => by go_simp⟩) s7 ?_
    refine wpAnyD_take (i := 57) (v := .bool false) rfl (by kernel_rfl) (by kernel_rfl) (by kernel_rfl) (by kernel_rfl) (by kernel_rfl) (fun _ _ _ h => h) (.inl ⟨by kernel_rfl, fun W' hS => by go_simp⟩) s7 ?_
    refine wpAnyD_take (i := 58) (v := .slice atu us.length ctu) rfl (by kernel_rfl) (by kernel_rfl) (by kernel_rfl) (by kernel_rfl) (by kernel_rfl) (fun _ _ _ h => h) (.inl ⟨by kernel_rfl, fun W' hS => by go_simp⟩) s7 ?_
    refine wpAnyD_take (i := 59) (v := .slice atv us.length ctv) rfl (by kernel_rfl) (by kernel_rfl) (by kernel_rfl) (by kernel_rfl) (by kernel_rfl) (fun _ _ _ h => h) (.inl ⟨by kernel_rfl, fun W' hS => by go_simp⟩) s7 ?_
    refine wpAnyD_one (i := 60) (by kernel_rfl) rfl (by kernel_rfl) ?_
    go_simp
    refine (sameTexts_any X7.heap.size _ _ us us X7 tu.txts tv.txts).mono ?_
    rintro e X8 ⟨rfl, zX8, rfl⟩
    simp only [decide_true]
    have hbX8 := below_drewN' (B := X7.heap.size) (w := X7) zX8
    obtain ⟨X8, hXX8⟩ : ∃ X, X7.drewN zX8 = X := ⟨_, rfl⟩
    have hszX8 : X7.heap.size = X8.heap.size := by rw [← hXX8]; rfl
    rw [hXX8] at hbX8 ⊢
    clear hXX8
    have s8 : SB V13.heap.size bq9 #[.slice xa sa.data.length xcap, .int .i64 sa.power] 28 bq11 #[.slice ya sa.data.length ycap, .int .i64 sa.power] 39 bq13 #[.slice za sc.data.length zcap, .int .i64 sc.power] 28 bq15 #[.slice ta sc.data.length tcap, .int .i64 sc.power] 39 bq17 #[.slice oa La.st.data.length ocap, .int .i64 La.st.power, .int .i64 La.count, .bool La.down] 32 bq20 #[.slice ga La.st.data.length gcap, .int .i64 La.st.power, .int .i64 La.count, .bool La.down] 49 r7 #[.slice ia dl icap, .int .i64 p] 28 b3 #[.slice va dl vcap, .int .i64 p] 28 (.slice fa fx.length fcap) (.slice ka fx.length kcap) fx X8 := s7.below hbX8
    replace q3 := q3.below hbX8 q3.lt
    replace q7 := q7.below hbX8 q7.lt
    replace q9 := q9.below hbX8 q9.lt
    replace q11 := q11.below hbX8 q11.lt
    replace q13 := q13.below hbX8 q13.lt
    replace q15 := q15.below hbX8 q15.lt
    replace q17 := q17.below hbX8 q17.lt
    replace q20 := q20.below hbX8 q20.lt
    replace ri := ri.below hbX8
    replace rd := rd.below hbX8
    replace ra := ra.below hbX8
    replace rb := rb.below hbX8
    replace rc := rc.below hbX8
    replace re := re.below hbX8
    replace rl := rl.below hbX8
    replace tp := tp.below hbX8
    replace rm := rm.below hbX8
    replace tq := tq.below hbX8
    replace rx := rx.below hbX8
    replace ry := ry.below hbX8
    replace tu := tu.below hbX8
    replace tv := tv.below hbX8
    replace hk := hk.trans (hbX8.mono (by omega))
    refine ⟨s8, ?_⟩
    clear hbX8
    refine wpAnyD_take (i := 61) (v := .bool false) rfl (by kernel_rfl) (by kernel_rfl) (by kernel_rfl) (by kernel_rfl) (by kernel_rfl) (fun _ _ _ h => h) (.inl ⟨by kernel_rfl, fun W' hS => by go_simp⟩) s8 ?_
    refine wpAnyD_take (i := 62) (v := .bool false) rfl (by kernel_rfl) (by kernel_rfl) (by kernel_rfl) (by kernel_rfl) (by kernel_rfl) (fun _ _ _ h => h) (.inl ⟨by kernel_rfl, fun W' hS => by go_simp⟩) s8 ?_
    refine wpAnyD_done (by kernel_rfl) ?_ _
    clear s0 s1 s2 s3 s4 s5 s6 s7 s8
    go_upto_region 14 with fail
    obtain ⟨K14, hK14⟩ : ∃ x, X8.heap.size = x := ⟨_, rfl⟩
    refine region_plain (SB K14 bq9 #[.slice xa sa.data.length xcap, .int .i64 sa.power] 28 bq11 #[.slice ya sa.data.length ycap, .int .i64 sa.power] 39 bq13 #[.slice za sc.data.length zcap, .int .i64 sc.power] 28 bq15 #[.slice ta sc.data.length tcap, .int .i64 sc.power] 39 bq17 #[.slice oa La.st.data.length ocap, .int .i64 La.st.power, .int .i64 La.count, .bool La.down] 32 bq20 #[.slice ga La.st.data.length gcap, .int .i64 La.st.power, .int .i64 La.count, .bool La.down] 49 r7 #[.slice ia dl icap, .int .i64 p] 28 b3 #[.slice va dl vcap, .int .i64 p] 28 (.slice fa fx.length fcap) (.slice ka fx.length kcap) fx) [] (by kernel_rfl) ?_
    have s9 : SB K14 bq9 #[.slice xa sa.data.length xcap, .int .i64 sa.power] 28 bq11 #[.slice ya sa.data.length ycap, .int .i64 sa.power] 39 bq13 #[.slice za sc.data.length zcap, .int .i64 sc.power] 28 bq15 #[.slice ta sc.data.length tcap, .int .i64 sc.power] 39 bq17 #[.slice oa La.st.data.length ocap, .int .i64 La.st.power, .int .i64 La.count, .bool La.down] 32 bq20 #[.slice ga La.st.data.length gcap, .int .i64 La.st.power, .int .i64 La.count, .bool La.down] 49 r7 #[.slice ia dl icap, .int .i64 p] 28 b3 #[.slice va dl vcap, .int .i64 p] 28 (.slice fa fx.length fcap) (.slice ka fx.length kcap) fx X8.drew := ⟨q9, q11, q13, q15, q17, q20, q7, q3, hK14 ▸ rx.own.byts, hK14 ▸ ry.own.byts, by rw [← hK14]; exact Nat.le_refl _⟩
    obtain ⟨X9, hXX9⟩ : ∃ X, X8.drew = X := ⟨_, rfl⟩
    have hdX9 : Below X8.heap.size X8 X9 := hXX9 ▸ (Below.refl _ X8).drew
    have hszX9 := hdX9.size
    rw [hXX9] at s9 ⊢
    clear hXX9
    replace q3 := q3.below hdX9 q3.lt
    replace q7 := q7.below hdX9 q7.lt
    replace q9 := q9.below hdX9 q9.lt
    replace q11 := q11.below hdX9 q11.lt
    replace q13 := q13.below hdX9 q13.lt
    replace q15 := q15.below hdX9 q15.lt
    replace q17 := q17.below hdX9 q17.lt
    replace q20 := q20.below hdX9 q20.lt
    replace ri := ri.below hdX9
    replace rd := rd.below hdX9
    replace ra := ra.below hdX9
    replace rb := rb.below hdX9
    replace rc := rc.below hdX9
    replace re := re.below hdX9
    replace rl := rl.below hdX9
    replace tp := tp.below hdX9
    replace rm := rm.below hdX9
    replace tq := tq.below hdX9
    replace rx := rx.below hdX9
    replace ry := ry.below hdX9
    replace tu := tu.below hdX9
    replace tv := tv.below hdX9
    replace hk := hk.trans (hdX9.mono (by omega))
    refine wpAnyD_take (i := 0) (v := .agg #[.slice ia dl icap, .int .i64 p]) rfl (by kernel_rfl) (by kernel_rfl) (by kernel_rfl) (by kernel_rfl) (by kernel_rfl) (fun _ _ _ h => h) (.inl ⟨by kernel_rfl, fun W' hS => by obtain ⟨c0, c1, f0, f1⟩ := (hS.q7).two; go_simp⟩) s9 ?_
    refine wpAnyD_take (i := 2) (v := .agg #[.slice va dl vcap, .int .i64 p]) rfl (by kernel_rfl) (by kernel_rfl) (by kernel_rfl) (by kernel_rfl) (by kernel_rfl) (fun _ _ _ h => h) (.inl ⟨by kernel_rfl, fun W' hS => by obtain ⟨c0, c1, f0, f1⟩ := (hS.q8).two; go_simp⟩) s9 ?_
    refine wpAnyD_one (i := 1) (by kernel_rfl) rfl (by kernel_rfl) ?_
    go_simp
    refine (valid_any ia dl icap p X9 (by unfold maxLen; omega)).mono ?_
    rintro e X10 ⟨rfl, hbX10⟩
    have hszX10 := hbX10.size
    have s10 : SB K14 bq9 #[.slice xa sa.data.length xcap, .int .i64 sa.power] 28 bq11 #[.slice ya sa.data.length ycap, .int .i64 sa.power] 39 bq13 #[.slice za sc.data.length zcap, .int .i64 sc.power] 28 bq15 #[.slice ta sc.data.length tcap, .int .i64 sc.power] 39 bq17 #[.slice oa La.st.data.length ocap, .int .i64 La.st.power, .int .i64 La.count, .bool La.down] 32 bq20 #[.slice ga La.st.data.length gcap, .int .i64 La.st.power, .int .i64 La.count, .bool La.down] 49 r7 #[.slice ia dl icap, .int .i64 p] 28 b3 #[.slice va dl vcap, .int .i64 p] 28 (.slice fa fx.length fcap) (.slice ka fx.length kcap) fx X10 := s9.below hbX10
    replace q3 := q3.below hbX10 q3.lt
    replace q7 := q7.below hbX10 q7.lt
    replace q9 := q9.below hbX10 q9.lt
    replace q11 := q11.below hbX10 q11.lt
    replace q13 := q13.below hbX10 q13.lt
    replace q15 := q15.below hbX10 q15.lt
    replace q17 := q17.below hbX10 q17.lt
    replace q20 := q20.below hbX10 q20.lt
    replace ri := ri.below hbX10
    replace rd := rd.below hbX10
    replace ra := ra.below hbX10
    replace rb := rb.below hbX10
    replace rc := rc.below hbX10
    replace re := re.below hbX10
    replace rl := rl.below hbX10
    replace tp := tp.below hbX10
    replace rm := rm.below hbX10
    replace tq := tq.below hbX10
    replace rx := rx.below hbX10
    replace ry := ry.below hbX10
    replace tu := tu.below hbX10
    replace tv := tv.below hbX10
    replace hk := hk.trans (hbX10.mono (by omega))
    refine ⟨s10, ?_⟩
    clear hbX10
    refine wpAnyD_one (i := 3) (by kernel_rfl) rfl (by kernel_rfl) ?_
    go_simp
    refine (store_any _ _ _ _ X10).mono ?_
    rintro e X11 ⟨rfl, hbX11⟩
    have hszX11 := hbX11.size
    have s11 : SB K14 bq9 #[.slice xa sa.data.length xcap, .int .i64 sa.power] 28 bq11 #[.slice ya sa.data.length ycap, .int .i64 sa.power] 39 bq13 #[.slice za sc.data.length zcap, .int .i64 sc.power] 28 bq15 #[.slice ta sc.data.length tcap, .int .i64 sc.power] 39 bq17 #[.slice oa La.st.data.length ocap, .int .i64 La.st.power, .int .i64 La.count, .bool La.down] 32 bq20 #[.slice ga La.st.data.length gcap, .int .i64 La.st.power, .int .i64 La.count, .bool La.down] 49 r7 #[.slice ia dl icap, .int .i64 p] 28 b3 #[.slice va dl vcap, .int .i64 p] 28 (.slice fa fx.length fcap) (.slice ka fx.length kcap) fx X11 := s10.below hbX11
    replace q3 := q3.below hbX11 q3.lt
    replace q7 := q7.below hbX11 q7.lt
    replace q9 := q9.below hbX11 q9.lt
    replace q11 := q11.below hbX11 q11.lt
    replace q13 := q13.below hbX11 q13.lt
    replace q15 := q15.below hbX11 q15.lt
    replace q17 := q17.below hbX11 q17.lt
    replace q20 := q20.below hbX11 q20.lt
    replace ri := ri.below hbX11
    replace rd := rd.below hbX11
    replace ra := ra.below hbX11
    replace rb := rb.below hbX11
    replace rc := rc.below hbX11
    replace re := re.below hbX11
    replace rl := rl.below hbX11
    replace tp := tp.below hbX11
    replace rm := rm.below hbX11
    replace tq := tq.below hbX11
    replace rx := rx.below hbX11
    replace ry := ry.below hbX11
    replace tu := tu.below hbX11
    replace tv := tv.below hbX11
    replace hk := hk.trans (hbX11.mono (by omega))
    refine ⟨s11, ?_⟩
    clear hbX11
    refine wpAnyD_one (i := 4) (by kernel_rfl) rfl (by kernel_rfl) ?_
    go_simp
    refine (valid_ref va dl vcap p X11 (by unfold maxLen; omega)).mono ?_
    rintro e X12 ⟨rfl, hbX12⟩
    have hszX12 := hbX12.size
    have s12 : SB K14 bq9 #[.slice xa sa.data.length xcap, .int .i64 sa.power] 28 bq11 #[.slice ya sa.data.length ycap, .int .i64 sa.power] 39 bq13 #[.slice za sc.data.length zcap, .int .i64 sc.power] 28 bq15 #[.slice ta sc.data.length tcap, .int .i64 sc.power] 39 bq17 #[.slice oa La.st.data.length ocap, .int .i64 La.st.power, .int .i64 La.count, .bool La.down] 32 bq20 #[.slice ga La.st.data.length gcap, .int .i64 La.st.power, .int .i64 La.count, .bool La.down] 49 r7 #[.slice ia dl icap, .int .i64 p] 28 b3 #[.slice va dl vcap, .int .i64 p] 28 (.slice fa fx.length fcap) (.slice ka fx.length kcap) fx X12 := s11.below hbX12
    replace q3 := q3.below hbX12 q3.lt
    replace q7 := q7.below hbX12 q7.lt
    replace q9 := q9.below hbX12 q9.lt
    replace q11 := q11.below hbX12 q11.lt
    replace q13 := q13.below hbX12 q13.lt
    replace q15 := q15.below hbX12 q15.lt
    replace q17 := q17.below hbX12 q17.lt
    replace q20 := q20.below hbX12 q20.lt
    replace ri := ri.below hbX12
    replace rd := rd.below hbX12
    replace ra := ra.below hbX12
    replace rb := rb.below hbX12
    replace rc := rc.below hbX12
    replace re := re.below hbX12
    replace rl := rl.below hbX12
    replace tp := tp.below hbX12
    replace rm := rm.below hbX12
    replace tq := tq.below hbX12
    replace rx := rx.below hbX12
    replace ry := ry.below hbX12
    replace tu := tu.below hbX12
    replace tv := tv.below hbX12
    replace hk := hk.trans (hbX12.mono (by omega))
    refine ⟨s12, ?_⟩
    clear hbX12
    obtain ⟨vb, hvb⟩ : ∃ x, validB dl p = x := ⟨_, rfl⟩
    rw [hvb]
    clear hvb
    refine wpAnyD_take (i := 5) (v := .bool false) rfl (by kernel_rfl) (by kernel_rfl) (by kernel_rfl) (by kernel_rfl) (by kernel_rfl) (fun _ _ _ h => h) (.inl ⟨by kernel_rfl, fun W' hS => by go_simp⟩) s12 ?_
    refine wpAnyD_take (i := 6) (v := .bool false) rfl (by kernel_rfl) (by kernel_rfl) (by kernel_rfl) (by kernel_rfl) (by kernel_rfl) (fun _ _ _ h => h) (.inl ⟨by kernel_rfl, fun W' hS => by go_simp⟩) s12 ?_
    refine wpAnyD_take (i := 7) (v := .pointer (some ⟨r7, 0, none⟩)) rfl (by kernel_rfl) (by kernel_rfl) (by kernel_rfl) (by kernel_rfl) (by kernel_rfl) (fun _ _ _ h => h) (.inl ⟨by kernel_rfl, fun W' hS => by go_simp⟩) s12 ?_
    refine wpAnyD_take (i := 8) (v := .slice ia dl icap) rfl (by kernel_rfl) (by kernel_rfl) (by kernel_rfl) (by kernel_rfl) (by kernel_rfl) (fun _ _ _ h => h) (.inl ⟨by kernel_rfl, fun W' hS => by obtain ⟨c0, c1, f0, f1⟩ := (hS.q7).two; go_simp⟩) s12 ?_
    refine wpAnyD_take (i := 9) (v := .pointer (some ⟨b3, 0, none⟩)) rfl (by kernel_rfl) (by kernel_rfl) (by kernel_rfl) (by kernel_rfl) (by kernel_rfl) (fun _ _ _ h => h) (.inl ⟨by kernel_rfl, fun W' hS => by go_simp⟩) s12 ?_
    refine wpAnyD_take (i := 10) (v := .slice va dl vcap) rfl (by kernel_rfl) (by kernel_rfl) (by kernel_rfl) (by kernel_rfl) (by kernel_rfl) (fun _ _ _ h => h) (.inl ⟨by kernel_rfl, fun W' hS => by obtain ⟨c0, c1, f0, f1⟩ := (hS.q8).two; go_simp⟩) s12 ?_
    have hkp := kept_any X12.heap.size ia icap (.slice va dl vcap) sd X12 (by rw [HDL.out]; exact ri.own.byts) (HV.out.below (K' := X12.heap.size) hk (by omega)) (by rw [HDL.out]; omega)
    rw [HDL.out] at hkp
    refine wpAnyD_one (i := 11) (by kernel_rfl) rfl (by kernel_rfl) ?_
    go_simp
    refine (hkp).mono ?_
    rintro e X13 ⟨rfl, zX13, rfl⟩
    have hbX13 := below_drewN' (B := X12.heap.size) (w := X12) zX13
    obtain ⟨X13, hXX13⟩ : ∃ X, X12.drewN zX13 = X := ⟨_, rfl⟩
    have hszX13 : X12.heap.size = X13.heap.size := by rw [← hXX13]; rfl
    rw [hXX13] at hbX13 ⊢
    clear hXX13
    have s13 : SB K14 bq9 #[.slice xa sa.data.length xcap, .int .i64 sa.power] 28 bq11 #[.slice ya sa.data.length ycap, .int .i64 sa.power] 39 bq13 #[.slice za sc.data.length zcap, .int .i64 sc.power] 28 bq15 #[.slice ta sc.data.length tcap, .int .i64 sc.power] 39 bq17 #[.slice oa La.st.data.length ocap, .int .i64 La.st.power, .int .i64 La.count, .bool La.down] 32 bq20 #[.slice ga La.st.data.length gcap, .int .i64 La.st.power, .int .i64 La.count, .bool La.down] 49 r7 #[.slice ia dl icap, .int .i64 p] 28 b3 #[.slice va dl vcap, .int .i64 p] 28 (.slice fa fx.length fcap) (.slice ka fx.length kcap) fx X13 := s12.below hbX13
    replace q3 := q3.below hbX13 q3.lt
    replace q7 := q7.below hbX13 q7.lt
    replace q9 := q9.below hbX13 q9.lt
    replace q11 := q11.below hbX13 q11.lt
    replace q13 := q13.below hbX13 q13.lt
    replace q15 := q15.below hbX13 q15.lt
    replace q17 := q17.below hbX13 q17.lt
    replace q20 := q20.below hbX13 q20.lt
    replace ri := ri.below hbX13
    replace rd := rd.below hbX13
    replace ra := ra.below hbX13
    replace rb := rb.below hbX13
    replace rc := rc.below hbX13
    replace re := re.below hbX13
    replace rl := rl.below hbX13
    replace tp := tp.below hbX13
    replace rm := rm.below hbX13
    replace tq := tq.below hbX13
    replace rx := rx.below hbX13
    replace ry := ry.below hbX13
    replace tu := tu.below hbX13
    replace tv := tv.below hbX13
    replace hk := hk.trans (hbX13.mono (by omega))
    refine ⟨s13, ?_⟩
    clear hbX13
    clear hkp
    refine wpAnyD_take (i := 12) (v := .bool false) rfl (by kernel_rfl) (by kernel_rfl) (by kernel_rfl) (by kernel_rfl) (by kernel_rfl) (fun _ _ _ h => h) (.inl ⟨by kernel_rfl, fun W' hS => by go_simp⟩) s13 ?_
    refine wpAnyD_take (i := 13) (v := .bool false) rfl (by kernel_rfl) (by kernel_rfl) (by kernel_rfl) (by kernel_rfl) (by kernel_rfl) (fun _ _ _ h => h) (.inl ⟨by kernel_rfl, fun W' hS => by go_simp⟩) s13 ?_
    refine wpAnyD_take (i := 14) (v := .bool false) rfl (by kernel_rfl) (by kernel_rfl) (by kernel_rfl) (by kernel_rfl) (by kernel_rfl) (fun _ _ _ h => h) (.inl ⟨by kernel_rfl, fun W' hS => by go_simp⟩) s13 ?_
    refine wpAnyD_take (i := 15) (v := .slice la d.length lcap) rfl (by kernel_rfl) (by kernel_rfl) (by kernel_rfl) (by kernel_rfl) (by kernel_rfl) (fun _ _ _ h => h) (.inl ⟨by kernel_rfl, fun W' hS => by go_simp⟩) s13 ?_
    refine wpAnyD_take (i := 16) (v := .slice da d.length dcap) rfl (by kernel_rfl) (by kernel_rfl) (by kernel_rfl) (by kernel_rfl) (by kernel_rfl) (fun _ _ _ h => h) (.inl ⟨by kernel_rfl, fun W' hS => by go_simp⟩) s13 ?_
    refine wpAnyD_one (i := 17) (by kernel_rfl) rfl (by kernel_rfl) ?_
    go_simp
    refine (kept_any X13.heap.size la lcap (.slice da d.length dcap) d X13 rd.own.byts (HD.out.below (K' := X13.heap.size) hk (by omega)) (by omega)).mono ?_
    rintro e X14 ⟨rfl, zX14, rfl⟩
    have hbX14 := below_drewN' (B := X13.heap.size) (w := X13) zX14
    obtain ⟨X14, hXX14⟩ : ∃ X, X13.drewN zX14 = X := ⟨_, rfl⟩
    have hszX14 : X13.heap.size = X14.heap.size := by rw [← hXX14]; rfl
    rw [hXX14] at hbX14 ⊢
    clear hXX14
    have s14 : SB K14 bq9 #[.slice xa sa.data.length xcap, .int .i64 sa.power] 28 bq11 #[.slice ya sa.data.length ycap, .int .i64 sa.power] 39 bq13 #[.slice za sc.data.length zcap, .int .i64 sc.power] 28 bq15 #[.slice ta sc.data.length tcap, .int .i64 sc.power] 39 bq17 #[.slice oa La.st.data.length ocap, .int .i64 La.st.power, .int .i64 La.count, .bool La.down] 32 bq20 #[.slice ga La.st.data.length gcap, .int .i64 La.st.power, .int .i64 La.count, .bool La.down] 49 r7 #[.slice ia dl icap, .int .i64 p] 28 b3 #[.slice va dl vcap, .int .i64 p] 28 (.slice fa fx.length fcap) (.slice ka fx.length kcap) fx X14 := s13.below hbX14
    replace q3 := q3.below hbX14 q3.lt
    replace q7 := q7.below hbX14 q7.lt
    replace q9 := q9.below hbX14 q9.lt
    replace q11 := q11.below hbX14 q11.lt
    replace q13 := q13.below hbX14 q13.lt
    replace q15 := q15.below hbX14 q15.lt
    replace q17 := q17.below hbX14 q17.lt
    replace q20 := q20.below hbX14 q20.lt
    replace ri := ri.below hbX14
    replace rd := rd.below hbX14
    replace ra := ra.below hbX14
    replace rb := rb.below hbX14
    replace rc := rc.below hbX14
    replace re := re.below hbX14
    replace rl := rl.below hbX14
    replace tp := tp.below hbX14
    replace rm := rm.below hbX14
    replace tq := tq.below hbX14
    replace rx := rx.below hbX14
    replace ry := ry.below hbX14
    replace tu := tu.below hbX14
    replace tv := tv.below hbX14
    replace hk := hk.trans (hbX14.mono (by omega))
    refine ⟨s14, ?_⟩
    clear hbX14
    refine wpAnyD_take (i := 18) (v := .bool false) rfl (by kernel_rfl) (by kernel_rfl) (by kernel_rfl) (by kernel_rfl) (by kernel_rfl) (fun _ _ _ h => h) (.inl ⟨by kernel_rfl, fun W' hS => by go_simp⟩) s14 ?_
    refine wpAnyD_take (i := 19) (v := .bool false) rfl (by kernel_rfl) (by kernel_rfl) (by kernel_rfl) (by kernel_rfl) (by kernel_rfl) (fun _ _ _ h => h) (.inl ⟨by kernel_rfl, fun W' hS => by go_simp⟩) s14 ?_
    refine wpAnyD_done (by kernel_rfl) ?_ _
    clear s9 s10 s11 s12 s13 s14
    go_upto_region 16 with fail
    have ris := ri.short (by simp [marks_length])
    rw [HDL.out] at ris
    have rds := rd.short (by simp [marks_length])
    rw [show (dl : Nat) = dl from rfl] at ris
    have hsm1 := HAL.out
    have hrow : (X14.alloc (.cells #[.slice xa sa.data.length xcap, .slice za sc.data.length zcap, .slice oa La.st.data.length ocap, .slice fa fx.length fcap, .slice ia dl icap, .slice la d.length lcap] 22)).ownsRow X14.heap.size 22 1 (.slice (some ⟨X14.heap.size, 0, none⟩) 6 6) 6 [.slice xa sa.data.length xcap, .slice za sc.data.length zcap, .slice oa La.st.data.length ocap, .slice fa fx.length fcap, .slice ia dl icap, .slice la d.length lcap] := row_new X14 [.slice xa sa.data.length xcap, .slice za sc.data.length zcap, .slice oa La.st.data.length ocap, .slice fa fx.length fcap, .slice ia dl icap, .slice la d.length lcap] (Nat.le_refl _) (by simp)
    have hka : Below X14.heap.size X14 (X14.alloc (.cells #[.slice xa sa.data.length xcap, .slice za sc.data.length zcap, .slice oa La.st.data.length ocap, .slice fa fx.length fcap, .slice ia dl icap, .slice la d.length lcap] 22)) := (Below.refl _ X14).alloc (Nat.le_refl _) _
    have tpA := tp.below hka
    have tuA := tu.below hka
    have hsA : X14.heap.size ≤ (X14.alloc (.cells #[.slice xa sa.data.length xcap, .slice za sc.data.length zcap, .slice oa La.st.data.length ocap, .slice fa fx.length fcap, .slice ia dl icap, .slice la d.length lcap] 22)).heap.size := hka.size
    have hq63 : 6 + qs.length ≤ 2 ^ 40 := by have := HQ1.out; omega
    have hu63 : 6 + qs.length + us.length ≤ 2 ^ 40 := by have := HQ1.out; have := HU1.out; omega
    obtain ⟨c0, c1, f0, f1⟩ := q9.two
    obtain ⟨d0, d1, g0, g1⟩ := q13.two
    obtain ⟨e0, e1, e2, e3, k0, k1, k2, k3⟩ := q17.four
    obtain ⟨m0, m1, n0, n1⟩ := q7.two
    go_wp2_with (first
      | (at_builtin; refine wpList_append_TT rfl (.tmp 196) (.tmp 197) rfl rfl rfl hrow tpA hq63 hsA ?_; intro v1 Y1 hr1 hg1; have hb1 := hka.trans (below_of_grown hg1 (fun r hr => (ownsRow_cells hrow hr).1) hsA); have tuB := tu.below hb1; have hsB := hb1.size)
      | (at_builtin; refine wpList_append_TT rfl (.tmp 198) (.tmp 199) rfl rfl rfl hr1 tuB hu63 hsB ?_; intro v2 Y2 hr2 hg2; have hb2 := hb1.trans (below_of_grown hg2 (fun r hr => (ownsRow_cells hr1 hr).1) hsB)))
    obtain ⟨lb, lcap', cs, rfl, hlb, hcs, hl1, hl2⟩ := row_cells hr2 (by omega)
    clear hka tpA tuA hr1 hg1 hb1 tuB hsB hr2 hg2 hrow hsA hq63 hu63 c0 c1 f0 f1 d0 d1 g0 g1 e0 e1 e2 e3 k0 k1 k2 k3 m0 m1 n0 n1
    replace ra := ra.below hb2
    replace rc := rc.below hb2
    replace rl := rl.below hb2
    replace rx := rx.below hb2
    replace ris := ris.below hb2
    replace rds := rds.below hb2
    replace tp := tp.below hb2
    replace tu := tu.below hb2
    replace hk := hk.trans (hb2.mono (by omega))
    have T0 := (tp.rws (base := b3) (by omega)).append (tu.rws (base := b3) (by omega)) (fun b h1 h2 => by obtain ⟨_, h1a, h1b⟩ := h1; obtain ⟨_, h2a, h2b⟩ := h2; omega)
    have R1 := T0.cons (Q := fun b => (mid ≤ b ∧ b < wa.heap.size) ∨ (b ∈ blocks vsp ∧ V6.heap.size ≤ b ∧ b < bq17) ∨ (V11.heap.size ≤ b ∧ b < V12.heap.size)) (rds.own.mono (by omega)) (fun b e h => by
      have g1 := rds.hi b e
      have g2 := rds.own.base_le' e
      rcases h with ⟨_, ha, hb⟩ | ⟨_, ha, hb⟩ <;> omega) (fun b e => .inl ⟨rds.own.base_le' e, rds.hi b e⟩) (fun b h => h.elim (fun h => .inr (.inl h)) (fun h => .inr (.inr h.2)))
    have R2 := R1.cons (Q := fun b => (W.heap.size ≤ b ∧ b < wa.heap.size) ∨ (b ∈ blocks vsp ∧ V6.heap.size ≤ b ∧ b < bq17) ∨ (V11.heap.size ≤ b ∧ b < V12.heap.size)) (ris.own.mono (by omega)) (fun b e h => by
      have g1 := ris.hi b e
      have g2 := ris.own.base_le' e
      rcases h with ⟨ha, hb⟩ | ⟨_, ha, hb⟩ | ⟨ha, hb⟩ <;> omega) (fun b e => .inl ⟨ris.own.base_le' e, by have := ris.hi b e; omega⟩) (fun b h => h.elim (fun h => .inl ⟨by omega, h.2⟩) .inr)
    have R3 := R2.cons (Q := fun b => (W.heap.size ≤ b ∧ b < wa.heap.size) ∨ (b ∈ blocks vsp ∧ V6.heap.size ≤ b ∧ b < bq17) ∨ V9.heap.size ≤ b) (rx.own.mono (by omega)) (fun b e h => by
      have g1 := rx.hi b e
      have g2 := rx.own.base_le' e
      rcases h with ⟨ha, hb⟩ | ⟨_, ha, hb⟩ | ⟨ha, hb⟩ <;> omega) (fun b e => .inr (.inr (rx.own.base_le' e))) (fun b h => h.elim .inl (fun h => .inr (h.imp id (fun h => by omega))))
    have R4 := R3.cons (Q := fun b => (W.heap.size ≤ b ∧ b < wa.heap.size) ∨ V6.heap.size ≤ b) (rl.own.mono (by omega)) (fun b e h => by
      have g1 := rl.hi b e
      have g2 := rl.own.base_le' e
      rcases h with ⟨ha, hb⟩ | ⟨hm, _⟩ | ha
      · omega
      · exact hlp b e hm
      · omega) (fun b e => .inr (rl.own.base_le' e)) (fun b h => h.elim .inl (fun h => .inr (h.elim (fun h => h.2.1) (fun h => by omega))))
    have R5 := R4.cons (Q := fun b => (W.heap.size ≤ b ∧ b < wa.heap.size) ∨ V3.heap.size ≤ b) (rc.own.mono (by omega)) (fun b e h => by
      have g1 := rc.hi b e
      have g2 := rc.own.base_le' e
      rcases h with ⟨ha, hb⟩ | ha <;> omega) (fun b e => .inr (rc.own.base_le' e)) (fun b h => h.imp id (fun h => by omega))
    have R6 := R5.cons (Q := fun _ => True) (ra.own.mono (by omega)) (fun b e h => by
      have g1 := ra.hi b e
      have g2 := ra.own.base_le' e
      rcases h with ⟨ha, hb⟩ | ha <;> omega) (fun _ _ => trivial) (fun _ _ => trivial)
    clear T0 R1 R2 R3 R4 R5
    have hN := R6.len
    simp only [List.length_cons, List.length_append] at hN
    have htwo := two_of R6.own R6.nd
    simp only [List.length_cons, List.length_append] at htwo
    rw [← hN, show qs.length + us.length + 1 + 1 + 1 + 1 + 1 + 1 = 6 + qs.length + us.length by omega] at htwo
    have hsmall : ∀ k, k < 6 + qs.length + us.length → ((sa.data :: sc.data :: La.st.data :: fx :: sd :: d :: (qs ++ us))[k]?.getD []).length ≤ 2 ^ 22 := by
      have g1 := HAL.out; have g2 := HCL.out; have g3 := HOL.out; have g4 := HFL.out; have g5 := HDL.out
      intro k hk
      match k, hk with
      | 0, _ => simp; omega
      | 1, _ => simp; omega
      | 2, _ => simp; omega
      | 3, _ => simp; omega
      | 4, _ => simp; omega
      | 5, _ => simp; omega
      | k + 6, hk =>
        simp only [List.getElem?_cons_succ]
        by_cases h : k < qs.length
        · rw [List.getElem?_append_left h]; have := HQ2.out k h; omega
        · rw [List.getElem?_append_right (by omega)]; have := HU2.out (k - qs.length) (by omega); omega
    have hcs' : ∀ k, k < 6 + qs.length + us.length → cs[k]? = some ((Value.slice xa sa.data.length xcap :: .slice za sc.data.length zcap :: .slice oa La.st.data.length ocap :: .slice fa fx.length fcap :: .slice ia dl icap :: .slice la d.length lcap :: (vsp ++ vstu) : List Value)[k]?.getD undef) := by
      intro k hk
      have := hcs k hk
      rw [List.append_assoc] at this
      exact this
    have hfs : FS b3 Y2 Y2 (6 + qs.length + us.length) lb cs _ _ _ _ := ⟨htwo, hlb, Below.refl _ _, by have := hb2.size; omega, fun _ _ _ _ h => h⟩
    have HFS := Lib.hid hfs; have HSM := Lib.hid hsmall; have HCS := Lib.hid hcs'
    clear hfs hsmall htwo hcs hcs' R6 hN
    have hN20 : 6 + qs.length + us.length ≤ 2 ^ 20 := by have := HQ1.out; have := HU1.out; omega
    refine (apart_any b3 Y2 (6 + qs.length + us.length) lcap' lb cs _ _ HFS.out hl1 hl2 (by omega) HCS.out HSM.out hN20).mono ?_
    rintro e Y3 ⟨rfl, hb3'⟩
    have hfin := hk.trans hb3'
    go_wp2_with fail
    go_ret
    exact ⟨rfl, by rw [HB3.out]; exact hfin⟩
end Go.Proofs.YtkdlimigepkepaaGreat

