/- Layer 37's logs: the functions of a log return what the reference returns, and share no memory. No conditions beyond sizes. -/
import Derived.Test.YtkdlimigepkepaaGreatK6
namespace Go.Proofs.YtkdlimigepkepaaGreat
open Go.RowKit
set_option linter.unusedVariables false

set_option maxRecDepth 100000 in
set_option maxHeartbeats 8000000 in
theorem logs_any (v vp : Value) (l : Lg) (d : List UInt8) (n : Int) (w : World) (hv : Byts w.heap.size w v l.st.data) (hd : Byts w.heap.size w vp d) (hp : l.st.power ≤ 2 ^ 63 - 1) (h1 : l.st.data.length ≤ 2 ^ 20) (h2 : d.length ≤ 2 ^ 20) :
    Calls Tryz.prog 6 #[.agg #[v, .int .i64 l.st.power, .int .i64 l.count, .bool l.down], vp, .int .i64 n] w fun e w' => e = .returned (.bool true) ∧ Below w.heap.size w w' := by
  obtain ⟨⟨La, ca⟩, hadd⟩ : ∃ x, addS l d = x := ⟨_, rfl⟩
  obtain ⟨⟨rs, cr⟩, hres⟩ : ∃ x, restoreS l n = x := ⟨_, rfl⟩
  have hal := addS_len hadd
  have hrl := restoreS_len' hres
  obtain ⟨va, vcap, rfl, _, _, _⟩ := id hv
  obtain ⟨da, dcap, rfl, _, _, _⟩ := id hd
  have HV := Lib.hid hv; have HD := Lib.hid hd; have HP := Lib.hid hp; have HADD := Lib.hid hadd; have HRES := Lib.hid hres; have HAL := Lib.hid hal; have HRL := Lib.hid hrl
  have hR : ∀ (K : Nat) (v : Value) (w : World), Byts K w v l.st.data → K ≤ w.heap.size → Calls Tryz.prog 34 #[.agg #[v, .int .i64 l.st.power, .int .i64 l.count, .bool l.down]] w fun e w' => e = .returned (.bool (rightB l)) ∧ Below w.heap.size w w' := fun K v w h1 h2 => right_any K v l w h1 h2
  have hR2 : ∀ (K : Nat) (v : Value) (w : World), Byts K w v l.st.data → K ≤ w.heap.size → Calls Tryz.prog 35 #[.agg #[v, .int .i64 l.st.power, .int .i64 l.count, .bool l.down]] w fun e w' => e = .returned (.bool (rightB l)) ∧ Below w.heap.size w w' := fun K v w h3 h4 => right_ref K v l w h3 h4 (by omega)
  have hA : ∀ (K : Nat) (v vp : Value) (w : World), Byts K w v l.st.data → Byts K w vp d → K ≤ w.heap.size → Calls Tryz.prog 30 #[.agg #[v, .int .i64 l.st.power, .int .i64 l.count, .bool l.down], vp] w fun e w' => ∃ a cap,
      e = .returned (.tuple #[.agg #[.slice a La.st.data.length cap, .int .i64 La.st.power, .int .i64 La.count, .bool La.down], .int .i64 ca]) ∧ OwnB w.heap.size w' (.slice a La.st.data.length cap) La.st.data ∧ Below w.heap.size w w' := fun K v vp w h3 h4 h5 => add_at HADD.out K v vp w h3 h4 h5 HP.out
  have hA2 : ∀ (K : Nat) (v vp : Value) (w : World), Byts K w v l.st.data → Byts K w vp d → K ≤ w.heap.size → Calls Tryz.prog 31 #[.agg #[v, .int .i64 l.st.power, .int .i64 l.count, .bool l.down], vp] w fun e w' => ∃ a cap,
      e = .returned (.tuple #[.agg #[.slice a La.st.data.length cap, .int .i64 La.st.power, .int .i64 La.count, .bool La.down], .int .i64 ca]) ∧ OwnB w.heap.size w' (.slice a La.st.data.length cap) La.st.data ∧ Below w.heap.size w w' := fun K v vp w h3 h4 h5 => add_ref_at HADD.out K v vp w h3 h4 h5 HP.out (by omega)
  have hT : ∀ (K : Nat) (v : Value) (w : World), Byts K w v l.st.data → K ≤ w.heap.size → Calls Tryz.prog 32 #[.agg #[v, .int .i64 l.st.power, .int .i64 l.count, .bool l.down], .int .i64 n] w fun e w' => ∃ a cap,
      e = .returned (.tuple #[.agg #[.slice a rs.data.length cap, .int .i64 rs.power], .int .i64 cr]) ∧ OwnB w.heap.size w' (.slice a rs.data.length cap) rs.data ∧ Below w.heap.size w w' := fun K v w h3 h4 => restore_at HRES.out K v w h3 h4
  have hT2 : ∀ (K : Nat) (v : Value) (w : World), Byts K w v l.st.data → K ≤ w.heap.size → Calls Tryz.prog 33 #[.agg #[v, .int .i64 l.st.power, .int .i64 l.count, .bool l.down], .int .i64 n] w fun e w' => ∃ a cap,
      e = .returned (.tuple #[.agg #[.slice a rs.data.length cap, .int .i64 rs.power], .int .i64 cr]) ∧ OwnB w.heap.size w' (.slice a rs.data.length cap) rs.data ∧ Below w.heap.size w w' := fun K v w h3 h4 => restore_ref_at HRES.out K v w h3 h4 (by omega)
  obtain ⟨ld, hld⟩ : ∃ x, l.st.data = x := ⟨_, rfl⟩
  obtain ⟨p, hlp⟩ : ∃ x, l.st.power = x := ⟨_, rfl⟩
  obtain ⟨c, hlc⟩ : ∃ x, l.count = x := ⟨_, rfl⟩
  obtain ⟨dn, hldn⟩ : ∃ x, l.down = x := ⟨_, rfl⟩
  rw [hld, hlp, hlc, hldn] at hR hR2 hA hA2 hT hT2
  rw [hld] at h1 HV hal hrl
  rw [hld, hlp, hlc, hldn]
  obtain ⟨RB, hRB⟩ : ∃ x, rightB l = x := ⟨_, rfl⟩
  rw [hRB] at hR hR2
  have HR := Lib.hid hR; have HR2 := Lib.hid hR2; have HA := Lib.hid hA; have HA2 := Lib.hid hA2; have HT := Lib.hid hT; have HT2 := Lib.hid hT2
  obtain ⟨dl, hdl⟩ : ∃ x, ld.length = x := ⟨_, rfl⟩
  rw [hdl] at h1 HV hal hrl ⊢
  have HDL := Lib.hid hdl
  clear hv hd hp hadd hres hR hR2 hA hA2 hT hT2 hld hlp hlc hldn hRB hdl
  go_enter Tryz.func6, Tryz.ntmps6
  go_upto_region 1 with fail
  have hk1 : Below w.heap.size w (w.alloc (.cells #[.slice va dl vcap, .int .i64 p, .int .i64 c, .bool dn] 32)) := (Below.refl _ w).alloc (Nat.le_refl _) _
  have q3 := Blk.new w #[.slice va dl vcap, .int .i64 p, .int .i64 c, .bool dn] 32
  obtain ⟨W, hW⟩ : ∃ X, w.alloc (.cells #[.slice va dl vcap, .int .i64 p, .int .i64 c, .bool dn] 32) = X := ⟨_, rfl⟩
  obtain ⟨b3, hb3⟩ : ∃ X, w.heap.size = X := ⟨_, rfl⟩
  rw [hW] at q3 hk1 ⊢
  rw [hb3] at q3 hk1 HV HD ⊢
  have HB3 := Lib.hid hb3
  clear hW hb3
  have hbW : b3 < W.heap.size := q3.lt
  go_cut [7, 8] from 17 to 19 (fun s7 s8 wx => ∃ r7 la lcap, s7 = .pointer (some ⟨r7, 0, none⟩) ∧ W.heap.size ≤ r7 ∧ s8 = .slice la d.length lcap ∧ Blk wx r7 #[.slice va dl vcap, .int .i64 p, .int .i64 c, .bool dn] 32 ∧ Row W.heap.size wx.heap.size wx (.slice la (d.length + 12) lcap) (d ++ marks 1 12) ∧ Below W.heap.size W wx)
  case first =>
    refine region_plain (S1 b3 #[.slice va dl vcap, .int .i64 p, .int .i64 c, .bool dn] 32) [] (by kernel_rfl) ?_
    have q0 : S1 b3 #[.slice va dl vcap, .int .i64 p, .int .i64 c, .bool dn] 32 W.drew := q3
    refine wpAnyD_take (i := 0) (v := .agg #[.slice va dl vcap, .int .i64 p, .int .i64 c, .bool dn]) rfl (by kernel_rfl) (by kernel_rfl) (by kernel_rfl) (by kernel_rfl) (by kernel_rfl) (fun _ _ _ h => h) (.inl ⟨by kernel_rfl, fun W' hS => by obtain ⟨c0, c1, c2, c3, f0, f1, f2, f3⟩ := (show Blk W' b3 _ _ from hS).four; go_simp⟩) q0 ?_
    refine wpAnyD_take (i := 1) (v := .slice da d.length dcap) rfl (by kernel_rfl) (by kernel_rfl) (by kernel_rfl) (by kernel_rfl) (by kernel_rfl) (fun _ _ _ h => h) (.inl ⟨by kernel_rfl, fun W' hS => by go_simp⟩) q0 ?_
    obtain ⟨W0, hW0⟩ : ∃ X, W.drew = X := ⟨_, rfl⟩
    have hk0 : Below W.heap.size W W0 := hW0 ▸ (Below.refl _ W).drew
    rw [hW0] at q0 ⊢
    clear hW0
    have hs0 := hk0.size
    refine wpAnyD_two (i := 2) (j := 3) (by kernel_rfl) rfl rfl (by kernel_rfl) (by kernel_rfl) ?_ ?_
    · go_simp
      refine (lent_any W0.heap.size _ d W0 ((HD.out.below hk1 (Nat.le_refl _)).below (K' := W0.heap.size) (hk0.mono (by omega)) (by omega)) (Nat.le_refl _) (by omega)).mono ?_
      rintro e W1 ⟨la, lcap, rfl, hro, hb1⟩
      have q1 : S1 b3 #[.slice va dl vcap, .int .i64 p, .int .i64 c, .bool dn] 32 W1 := Blk.below q0 hb1 (by omega)
      refine ⟨q1, ?_⟩
      have hs1 := hb1.size
      refine wpAnyD_one (i := 3) (by kernel_rfl) rfl (by kernel_rfl) ?_
      go_simp
      have q2 : S1 b3 #[.slice va dl vcap, .int .i64 p, .int .i64 c, .bool dn] 32 (W1.alloc (.cells #[.slice none 0 0, .int .i64 0, .int .i64 0, .bool false] 32)) := Blk.alloc q1 _
      refine ⟨q2, ?_⟩
      have ab := Blk.new W1 #[.slice none 0 0, .int .i64 0, .int .i64 0, .bool false] 32
      have hro2 := (Row.mk' hro).below ((Below.refl W1.heap.size W1).alloc (Nat.le_refl _) (.cells #[.slice none 0 0, .int .i64 0, .int .i64 0, .bool false] 32))
      have hk2 : Below W.heap.size W (W1.alloc (.cells #[.slice none 0 0, .int .i64 0, .int .i64 0, .bool false] 32)) := (hk0.trans (hb1.mono hs0)).alloc (by omega) _
      obtain ⟨W2, hW2⟩ : ∃ X, W1.alloc (.cells #[.slice none 0 0, .int .i64 0, .int .i64 0, .bool false] 32) = X := ⟨_, rfl⟩
      have hs2 : W1.heap.size + 1 = W2.heap.size := by rw [← hW2]; simp
      obtain ⟨r, hr⟩ : ∃ X, W1.heap.size = X := ⟨_, rfl⟩
      rw [hW2] at q2 ab hro2 hk2 ⊢
      rw [hr] at ab hro2 hs1 hs2 ⊢
      clear hr hW2
      obtain ⟨c0, c1, c2, c3, f0, f1, f2, f3⟩ := ab.four
      refine wpAnyD_one (i := 4) (by kernel_rfl) rfl (by kernel_rfl) ?_
      go_simp
      obtain ⟨W3, hW3, ab3, hp3, ha3, hz3⟩ := put4 ab (.slice va dl vcap) (.int .i64 p) (.int .i64 c) (.bool dn)
      have hne : (Value.slice la (d.length + 12) lcap).ownBlock ≠ some r := fun e => by have := hro2.hi r e; omega
      have hro3 : OwnB W0.heap.size W3 (.slice la (d.length + 12) lcap) (d ++ marks 1 12) := hW3 ▸ (((hro2.own.kept (grownBy_setCell W2 r 0 _) (.inr hne)).kept (grownBy_setCell _ r 1 _) (.inr hne)).kept (grownBy_setCell _ r 2 _) (.inr hne)).kept (grownBy_setCell _ r 3 _) (.inr hne)
      rw [hW3]
      have q3' : S1 b3 #[.slice va dl vcap, .int .i64 p, .int .i64 c, .bool dn] 32 W3 := Blk.below q2 hp3 (by omega)
      refine ⟨q3', ?_⟩
      refine wpAnyD_one (i := 5) (by kernel_rfl) rfl (by kernel_rfl) ?_
      go_simp
      refine wpAnyD_done (by kernel_rfl) ?_ _
      go_wp2_with fail
      go_meet
      exact ⟨r, la, lcap, rfl, by omega, rfl, ab3, ⟨hro3.mono hs0, fun b hb => by have := hro2.hi b hb; omega⟩, hk2.trans (hp3.mono (by omega))⟩
    · go_simp
      have q1 : S1 b3 #[.slice va dl vcap, .int .i64 p, .int .i64 c, .bool dn] 32 (W0.alloc (.cells #[.slice none 0 0, .int .i64 0, .int .i64 0, .bool false] 32)) := Blk.alloc q0 _
      refine ⟨q1, ?_⟩
      have ab1 := Blk.new W0 #[.slice none 0 0, .int .i64 0, .int .i64 0, .bool false] 32
      have hk2 : Below W.heap.size W (W0.alloc (.cells #[.slice none 0 0, .int .i64 0, .int .i64 0, .bool false] 32)) := hk0.alloc hs0 _
      obtain ⟨W1, hW1⟩ : ∃ X, W0.alloc (.cells #[.slice none 0 0, .int .i64 0, .int .i64 0, .bool false] 32) = X := ⟨_, rfl⟩
      have hs1 : W0.heap.size + 1 = W1.heap.size := by rw [← hW1]; simp
      obtain ⟨r, hr⟩ : ∃ X, W0.heap.size = X := ⟨_, rfl⟩
      rw [hW1] at q1 ab1 hk2 ⊢
      rw [hr] at ab1 hs0 hs1 ⊢
      clear hr hW1
      refine wpAnyD_one (i := 2) (by kernel_rfl) rfl (by kernel_rfl) ?_
      go_simp
      refine (lent_any W1.heap.size _ d W1 ((HD.out.below hk1 (Nat.le_refl _)).below (K' := W1.heap.size) (hk2.mono (by omega)) (by omega)) (Nat.le_refl _) (by omega)).mono ?_
      rintro e W2 ⟨la, lcap, rfl, hro, hb2⟩
      have q2 : S1 b3 #[.slice va dl vcap, .int .i64 p, .int .i64 c, .bool dn] 32 W2 := Blk.below q1 hb2 (by omega)
      refine ⟨q2, ?_⟩
      have ab := ab1.below hb2 ab1.lt
      have hk3 := hk2.trans (hb2.mono (by omega))
      have hs2 := hb2.size
      obtain ⟨c0, c1, c2, c3, f0, f1, f2, f3⟩ := ab.four
      refine wpAnyD_one (i := 4) (by kernel_rfl) rfl (by kernel_rfl) ?_
      go_simp
      obtain ⟨W3, hW3, ab3, hp3, ha3, hz3⟩ := put4 ab (.slice va dl vcap) (.int .i64 p) (.int .i64 c) (.bool dn)
      have hro3 := hro.above ha3 (by omega)
      rw [hW3]
      have q3' : S1 b3 #[.slice va dl vcap, .int .i64 p, .int .i64 c, .bool dn] 32 W3 := Blk.below q2 hp3 (by omega)
      refine ⟨q3', ?_⟩
      refine wpAnyD_one (i := 5) (by kernel_rfl) rfl (by kernel_rfl) ?_
      go_simp
      refine wpAnyD_done (by kernel_rfl) ?_ _
      go_wp2_with fail
      go_meet
      exact ⟨r, la, lcap, rfl, by omega, rfl, ab3, Row.mk' (hro3.mono (by omega)), hk3.trans (hp3.mono hs0)⟩
  case rest =>
    obtain ⟨wa, rfl⟩ : ∃ X : World, X = wc := ⟨_, rfl⟩
    obtain ⟨r7, la, lcap, rfl, hr7, rfl, q7, rd, hbx⟩ := hcut
    have q3a := q3.below hbx hbW
    have hk2 : Below b3 w wa := hk1.trans (hbx.mono (by omega))
    have hsa := hbx.size
    clear q3 hk1 hbx
    obtain ⟨c0, c1, c2, c3, f0, f1, f2, f3⟩ := q3a.four
    go_wp2_with fail
    refine (lent_any wa.heap.size _ ld wa (HV.out.below (K' := wa.heap.size) hk2 (by omega)) (Nat.le_refl _) (by rw [HDL.out]; omega)).mono ?_
    rw [HDL.out]
    rintro e w2 ⟨ia, icap, rfl, hi2, hb2⟩
    have q3b := q3a.below hb2 q3a.lt
    have q7b := q7.below hb2 q7.lt
    have rdb := rd.below hb2
    have ri := Row.mk' hi2
    have hk3 : Below b3 w w2 := hk2.trans (hb2.mono (by omega))
    have hs2 := hb2.size
    have hl7 := q7.lt
    clear q3a q7 rd hk2 hi2 hb2 c0 c1 c2 c3 f0 f1 f2 f3
    obtain ⟨c0, c1, c2, c3, f0, f1, f2, f3⟩ := q7b.four
    have hne3 : b3 ≠ r7 := by omega
    have q7c := q7b.set (i := 0) (.slice ia dl icap)
    have q3c := q3b.other (i := 0) hne3 (.slice ia dl icap)
    have hk4 := hk3.setCell (p := ⟨r7, 0, none⟩) (show b3 ≤ r7 by omega) (.slice ia dl icap)
    have rdc : Row W.heap.size wa.heap.size (w2.setCell ⟨r7, 0, none⟩ (.slice ia dl icap)) _ _ := ⟨rdb.own.kept (grownBy_setCell w2 r7 0 _) (.inr (q7b.ne_own (by decide) rdb.own)), rdb.hi⟩
    have ric : Row wa.heap.size w2.heap.size (w2.setCell ⟨r7, 0, none⟩ (.slice ia dl icap)) _ _ := ⟨ri.own.kept (grownBy_setCell w2 r7 0 _) (.inr (q7b.ne_own (by decide) ri.own)), ri.hi⟩
    go_upto_region 3 with fail
    obtain ⟨W3, hW3⟩ : ∃ X, w2.setCell ⟨r7, 0, none⟩ (.slice ia dl icap) = X := ⟨_, rfl⟩
    have hs3 : w2.heap.size = W3.heap.size := by rw [← hW3]; simp
    rw [hW3] at q7c q3c hk4 rdc ric ⊢
    have q7 : Blk W3 r7 #[.slice ia dl icap, .int .i64 p, .int .i64 c, .bool dn] 32 := q7c
    have q3 := q3c
    have rd := rdc
    have ri := ric
    have hk := hk4
    clear hW3 q3b q7b rdb hk3 c0 c1 c2 c3 f0 f1 f2 f3 q7c q3c rdc ric hk4
    obtain ⟨c0, c1, c2, c3, f0, f1, f2, f3⟩ := q7.four
    have ris := ri.short (by simp [marks_length])
    have rds := rd.short (by simp [marks_length])
    rw [HDL.out] at ris
    go_wp2_with fail
    refine (HA.out W3.heap.size _ _ W3 ris.own.byts rds.own.byts (Nat.le_refl _)).mono ?_
    rintro e W4a ⟨xa, xcap, rfl, ho4, hb4⟩
    have hsz4 := hb4.size
    replace q3 := q3.below hb4 q3.lt
    replace q7 := q7.below hb4 q7.lt
    replace rd := rd.below hb4
    replace ri := ri.below hb4
    replace hk := hk.trans (hb4.mono (by omega))
    have ra := Row.mk' ho4
    have hka4 : Below W4a.heap.size W4a (W4a.alloc (.cells #[.slice xa La.st.data.length xcap, .int .i64 La.st.power, .int .i64 La.count, .bool La.down] 32)) := (Below.refl _ W4a).alloc (Nat.le_refl _) _
    replace q3 := q3.below hka4 q3.lt
    replace q7 := q7.below hka4 q7.lt
    replace rd := rd.below hka4
    replace ri := ri.below hka4
    replace ra := ra.below hka4
    replace hk := hk.trans (hka4.mono (by omega))
    have q9 := Blk.new W4a #[.slice xa La.st.data.length xcap, .int .i64 La.st.power, .int .i64 La.count, .bool La.down] 32
    clear ho4 hb4 hka4 c0 c1 c2 c3 f0 f1 f2 f3 ris rds
    go_upto_region 4 with fail
    obtain ⟨W4, hW4⟩ : ∃ X, W4a.alloc (.cells #[.slice xa La.st.data.length xcap, .int .i64 La.st.power, .int .i64 La.count, .bool La.down] 32) = X := ⟨_, rfl⟩
    have hsy4 : W4a.heap.size + 1 = W4.heap.size := by rw [← hW4]; simp
    obtain ⟨bq9, hx4⟩ : ∃ X, W4a.heap.size = X := ⟨_, rfl⟩
    rw [hW4] at q3 q7 q9 rd ri ra hk ⊢
    rw [hx4] at q9 ra hsz4 hsy4 ⊢
    clear hW4 hx4
    obtain ⟨c0, c1, c2, c3, f0, f1, f2, f3⟩ := q3.four
    go_wp2_with fail
    refine (plain_any _ _ _ _ _ _ W4).mono ?_
    rintro e W5 ⟨rfl, hb5⟩
    have hsz5 := hb5.size
    replace q3 := q3.below hb5 q3.lt
    replace q7 := q7.below hb5 q7.lt
    replace q9 := q9.below hb5 q9.lt
    replace rd := rd.below hb5
    replace ri := ri.below hb5
    replace ra := ra.below hb5
    replace hk := hk.trans (hb5.mono (by omega))
    clear hb5 c0 c1 c2 c3 f0 f1 f2 f3
    go_wp2_with fail
    refine (HA2.out W5.heap.size _ _ W5 (HV.out.below (K' := W5.heap.size) hk (by omega)) (HD.out.below (K' := W5.heap.size) hk (by omega)) (Nat.le_refl _)).mono ?_
    rintro e W6a ⟨ya, ycap, rfl, ho6, hb6⟩
    have hsz6 := hb6.size
    replace q3 := q3.below hb6 q3.lt
    replace q7 := q7.below hb6 q7.lt
    replace q9 := q9.below hb6 q9.lt
    replace rd := rd.below hb6
    replace ri := ri.below hb6
    replace ra := ra.below hb6
    replace hk := hk.trans (hb6.mono (by omega))
    have rb := Row.mk' ho6
    have hka6 : Below W6a.heap.size W6a (W6a.alloc (.cells #[.slice ya La.st.data.length ycap, .int .i64 La.st.power, .int .i64 La.count, .bool La.down] 49)) := (Below.refl _ W6a).alloc (Nat.le_refl _) _
    replace q3 := q3.below hka6 q3.lt
    replace q7 := q7.below hka6 q7.lt
    replace q9 := q9.below hka6 q9.lt
    replace rd := rd.below hka6
    replace ri := ri.below hka6
    replace ra := ra.below hka6
    replace rb := rb.below hka6
    replace hk := hk.trans (hka6.mono (by omega))
    have q11 := Blk.new W6a #[.slice ya La.st.data.length ycap, .int .i64 La.st.power, .int .i64 La.count, .bool La.down] 49
    clear ho6 hb6 hka6 
    go_upto_region 5 with fail
    obtain ⟨W6, hW6⟩ : ∃ X, W6a.alloc (.cells #[.slice ya La.st.data.length ycap, .int .i64 La.st.power, .int .i64 La.count, .bool La.down] 49) = X := ⟨_, rfl⟩
    have hsy6 : W6a.heap.size + 1 = W6.heap.size := by rw [← hW6]; simp
    obtain ⟨bq11, hx6⟩ : ∃ X, W6a.heap.size = X := ⟨_, rfl⟩
    rw [hW6] at q3 q7 q9 q11 rd ri ra rb hk ⊢
    rw [hx6] at q11 rb hsz6 hsy6 ⊢
    clear hW6 hx6
    obtain ⟨c0, c1, c2, c3, f0, f1, f2, f3⟩ := q7.four
    have ris := ri.short (by simp [marks_length])
    rw [HDL.out] at ris
    go_wp2_with fail
    refine (HT.out W6.heap.size _ W6 ris.own.byts (Nat.le_refl _)).mono ?_
    rintro e W7a ⟨za, zcap, rfl, ho7, hb7⟩
    have hsz7 := hb7.size
    replace q3 := q3.below hb7 q3.lt
    replace q7 := q7.below hb7 q7.lt
    replace q9 := q9.below hb7 q9.lt
    replace q11 := q11.below hb7 q11.lt
    replace rd := rd.below hb7
    replace ri := ri.below hb7
    replace ra := ra.below hb7
    replace rb := rb.below hb7
    replace hk := hk.trans (hb7.mono (by omega))
    have rs1 := Row.mk' ho7
    have hka7 : Below W7a.heap.size W7a (W7a.alloc (.cells #[.slice za rs.data.length zcap, .int .i64 rs.power] 28)) := (Below.refl _ W7a).alloc (Nat.le_refl _) _
    replace q3 := q3.below hka7 q3.lt
    replace q7 := q7.below hka7 q7.lt
    replace q9 := q9.below hka7 q9.lt
    replace q11 := q11.below hka7 q11.lt
    replace rd := rd.below hka7
    replace ri := ri.below hka7
    replace ra := ra.below hka7
    replace rb := rb.below hka7
    replace rs1 := rs1.below hka7
    replace hk := hk.trans (hka7.mono (by omega))
    have q13 := Blk.new W7a #[.slice za rs.data.length zcap, .int .i64 rs.power] 28
    clear ho7 hb7 hka7 c0 c1 c2 c3 f0 f1 f2 f3 ris
    go_upto_region 6 with fail
    obtain ⟨W7, hW7⟩ : ∃ X, W7a.alloc (.cells #[.slice za rs.data.length zcap, .int .i64 rs.power] 28) = X := ⟨_, rfl⟩
    have hsy7 : W7a.heap.size + 1 = W7.heap.size := by rw [← hW7]; simp
    obtain ⟨bq13, hx7⟩ : ∃ X, W7a.heap.size = X := ⟨_, rfl⟩
    rw [hW7] at q3 q7 q9 q11 q13 rd ri ra rb rs1 hk ⊢
    rw [hx7] at q13 rs1 hsz7 hsy7 ⊢
    clear hW7 hx7
    obtain ⟨c0, c1, c2, c3, f0, f1, f2, f3⟩ := q3.four
    go_wp2_with fail
    refine (plain_any _ _ _ _ _ _ W7).mono ?_
    rintro e W8 ⟨rfl, hb8⟩
    have hsz8 := hb8.size
    replace q3 := q3.below hb8 q3.lt
    replace q7 := q7.below hb8 q7.lt
    replace q9 := q9.below hb8 q9.lt
    replace q11 := q11.below hb8 q11.lt
    replace q13 := q13.below hb8 q13.lt
    replace rd := rd.below hb8
    replace ri := ri.below hb8
    replace ra := ra.below hb8
    replace rb := rb.below hb8
    replace rs1 := rs1.below hb8
    replace hk := hk.trans (hb8.mono (by omega))
    clear hb8 c0 c1 c2 c3 f0 f1 f2 f3
    go_wp2_with fail
    refine (HT2.out W8.heap.size _ W8 (HV.out.below (K' := W8.heap.size) hk (by omega)) (Nat.le_refl _)).mono ?_
    rintro e W9a ⟨ua, ucap, rfl, ho9, hb9⟩
    have hsz9 := hb9.size
    replace q3 := q3.below hb9 q3.lt
    replace q7 := q7.below hb9 q7.lt
    replace q9 := q9.below hb9 q9.lt
    replace q11 := q11.below hb9 q11.lt
    replace q13 := q13.below hb9 q13.lt
    replace rd := rd.below hb9
    replace ri := ri.below hb9
    replace ra := ra.below hb9
    replace rb := rb.below hb9
    replace rs1 := rs1.below hb9
    replace hk := hk.trans (hb9.mono (by omega))
    have rs2 := Row.mk' ho9
    have hka9 : Below W9a.heap.size W9a (W9a.alloc (.cells #[.slice ua rs.data.length ucap, .int .i64 rs.power] 39)) := (Below.refl _ W9a).alloc (Nat.le_refl _) _
    replace q3 := q3.below hka9 q3.lt
    replace q7 := q7.below hka9 q7.lt
    replace q9 := q9.below hka9 q9.lt
    replace q11 := q11.below hka9 q11.lt
    replace q13 := q13.below hka9 q13.lt
    replace rd := rd.below hka9
    replace ri := ri.below hka9
    replace ra := ra.below hka9
    replace rb := rb.below hka9
    replace rs1 := rs1.below hka9
    replace rs2 := rs2.below hka9
    replace hk := hk.trans (hka9.mono (by omega))
    have q15 := Blk.new W9a #[.slice ua rs.data.length ucap, .int .i64 rs.power] 39
    clear ho9 hb9 hka9 
    go_upto_region 7 with fail
    obtain ⟨W9, hW9⟩ : ∃ X, W9a.alloc (.cells #[.slice ua rs.data.length ucap, .int .i64 rs.power] 39) = X := ⟨_, rfl⟩
    have hsy9 : W9a.heap.size + 1 = W9.heap.size := by rw [← hW9]; simp
    obtain ⟨bq15, hx9⟩ : ∃ X, W9a.heap.size = X := ⟨_, rfl⟩
    rw [hW9] at q3 q7 q9 q11 q13 q15 rd ri ra rb rs1 rs2 hk ⊢
    rw [hx9] at q15 rs2 hsz9 hsy9 ⊢
    clear hW9 hx9
    refine region_plain (S6 bq9 #[.slice xa La.st.data.length xcap, .int .i64 La.st.power, .int .i64 La.count, .bool La.down] 32 bq11 #[.slice ya La.st.data.length ycap, .int .i64 La.st.power, .int .i64 La.count, .bool La.down] 49 bq13 #[.slice za rs.data.length zcap, .int .i64 rs.power] 28 bq15 #[.slice ua rs.data.length ucap, .int .i64 rs.power] 39 r7 #[.slice ia dl icap, .int .i64 p, .int .i64 c, .bool dn] 32 b3 #[.slice va dl vcap, .int .i64 p, .int .i64 c, .bool dn] 32) [] (by kernel_rfl) ?_
    have s0 : S6 bq9 #[.slice xa La.st.data.length xcap, .int .i64 La.st.power, .int .i64 La.count, .bool La.down] 32 bq11 #[.slice ya La.st.data.length ycap, .int .i64 La.st.power, .int .i64 La.count, .bool La.down] 49 bq13 #[.slice za rs.data.length zcap, .int .i64 rs.power] 28 bq15 #[.slice ua rs.data.length ucap, .int .i64 rs.power] 39 r7 #[.slice ia dl icap, .int .i64 p, .int .i64 c, .bool dn] 32 b3 #[.slice va dl vcap, .int .i64 p, .int .i64 c, .bool dn] 32 W9.drew := ⟨q9, q11, q13, q15, q7, q3⟩
    refine wpAnyD_take (i := 0) (v := .int .i64 ca) rfl (by kernel_rfl) (by kernel_rfl) (by kernel_rfl) (by kernel_rfl) (by kernel_rfl) (fun _ _ _ h => h) (.inl ⟨by kernel_rfl, fun W' hS => by go_simp⟩) s0 ?_
    refine wpAnyD_take (i := 1) (v := .int .i64 ca) rfl (by kernel_rfl) (by kernel_rfl) (by kernel_rfl) (by kernel_rfl) (by kernel_rfl) (fun _ _ _ h => h) (.inl ⟨by kernel_rfl, fun W' hS => by go_simp⟩) s0 ?_
    refine wpAnyD_take (i := 2) (v := .bool false) rfl (by kernel_rfl) (by kernel_rfl) (by kernel_rfl) (by kernel_rfl) (by kernel_rfl) (fun _ _ _ h => h) (.inl ⟨by kernel_rfl, fun W' hS => by go_simp⟩) s0 ?_
    refine wpAnyD_take (i := 3) (v := .bool false) rfl (by kernel_rfl) (by kernel_rfl) (by kernel_rfl) (by kernel_rfl) (by kernel_rfl) (fun _ _ _ h => h) (.inl ⟨by kernel_rfl, fun W' hS => by go_simp⟩) s0 ?_
    refine wpAnyD_take (i := 4) (v := .int .i64 cr) rfl (by kernel_rfl) (by kernel_rfl) (by kernel_rfl) (by kernel_rfl) (by kernel_rfl) (fun _ _ _ h => h) (.inl ⟨by kernel_rfl, fun W' hS => by go_simp⟩) s0 ?_
    refine wpAnyD_take (i := 5) (v := .int .i64 cr) rfl (by kernel_rfl) (by kernel_rfl) (by kernel_rfl) (by kernel_rfl) (by kernel_rfl) (fun _ _ _ h => h) (.inl ⟨by kernel_rfl, fun W' hS => by go_simp⟩) s0 ?_
    refine wpAnyD_take (i := 6) (v := .bool false) rfl (by kernel_rfl) (by kernel_rfl) (by kernel_rfl) (by kernel_rfl) (by kernel_rfl) (fun _ _ _ h => h) (.inl ⟨by kernel_rfl, fun W' hS => by go_simp⟩) s0 ?_
    refine wpAnyD_take (i := 7) (v := .bool false) rfl (by kernel_rfl) (by kernel_rfl) (by kernel_rfl) (by kernel_rfl) (by kernel_rfl) (fun _ _ _ h => h) (.inl ⟨by kernel_rfl, fun W' hS => by go_simp⟩) s0 ?_
    refine wpAnyD_take (i := 8) (v := .bool false) rfl (by kernel_rfl) (by kernel_rfl) (by kernel_rfl) (by kernel_rfl) (by kernel_rfl) (fun _ _ _ h => h) (.inl ⟨by kernel_rfl, fun W' hS => by go_simp⟩) s0 ?_
    refine wpAnyD_take (i := 9) (v := .agg #[.slice xa La.st.data.length xcap, .int .i64 La.st.power, .int .i64 La.count, .bool La.down]) rfl (by kernel_rfl) (by kernel_rfl) (by kernel_rfl) (by kernel_rfl) (by kernel_rfl) (fun _ _ _ h => h) (.inl ⟨by kernel_rfl, fun W' hS => by obtain ⟨c0, c1, c2, c3, f0, f1, f2, f3⟩ := (hS.1).four; go_simp⟩) s0 ?_
    refine wpAnyD_take (i := 11) (v := .agg #[.slice ya La.st.data.length ycap, .int .i64 La.st.power, .int .i64 La.count, .bool La.down]) rfl (by kernel_rfl) (by kernel_rfl) (by kernel_rfl) (by kernel_rfl) (by kernel_rfl) (fun _ _ _ h => h) (.inl ⟨by kernel_rfl, fun W' hS => by obtain ⟨c0, c1, c2, c3, f0, f1, f2, f3⟩ := (hS.2.1).four; go_simp⟩) s0 ?_
    obtain ⟨X0, hX0⟩ : ∃ X, W9.drew = X := ⟨_, rfl⟩
    have hd9 : Below W9.heap.size W9 X0 := hX0 ▸ (Below.refl _ W9).drew
    have hszX := hd9.size
    rw [hX0] at s0 ⊢
    clear hX0
    replace q3 := q3.below hd9 q3.lt
    replace q7 := q7.below hd9 q7.lt
    replace q9 := q9.below hd9 q9.lt
    replace q11 := q11.below hd9 q11.lt
    replace q13 := q13.below hd9 q13.lt
    replace q15 := q15.below hd9 q15.lt
    replace rd := rd.below hd9
    replace ri := ri.below hd9
    replace ra := ra.below hd9
    replace rb := rb.below hd9
    replace rs1 := rs1.below hd9
    replace rs2 := rs2.below hd9
    replace hk := hk.trans (hd9.mono (by omega))
    refine wpAnyD_one (i := 10) (by kernel_rfl) rfl (by kernel_rfl) ?_
    go_simp
    refine (plain_any _ _ _ _ _ _ X0).mono ?_
    rintro e X1 ⟨rfl, hbX1⟩
    have hszX1 := hbX1.size
    have s1 : S6 bq9 #[.slice xa La.st.data.length xcap, .int .i64 La.st.power, .int .i64 La.count, .bool La.down] 32 bq11 #[.slice ya La.st.data.length ycap, .int .i64 La.st.power, .int .i64 La.count, .bool La.down] 49 bq13 #[.slice za rs.data.length zcap, .int .i64 rs.power] 28 bq15 #[.slice ua rs.data.length ucap, .int .i64 rs.power] 39 r7 #[.slice ia dl icap, .int .i64 p, .int .i64 c, .bool dn] 32 b3 #[.slice va dl vcap, .int .i64 p, .int .i64 c, .bool dn] 32 X1 := s0.below hbX1
    replace q3 := q3.below hbX1 q3.lt
    replace q7 := q7.below hbX1 q7.lt
    replace q9 := q9.below hbX1 q9.lt
    replace q11 := q11.below hbX1 q11.lt
    replace q13 := q13.below hbX1 q13.lt
    replace q15 := q15.below hbX1 q15.lt
    replace rd := rd.below hbX1
    replace ri := ri.below hbX1
    replace ra := ra.below hbX1
    replace rb := rb.below hbX1
    replace rs1 := rs1.below hbX1
    replace rs2 := rs2.below hbX1
    replace hk := hk.trans (hbX1.mono (by omega))
    refine ⟨s1, ?_⟩
    refine wpAnyD_one (i := 12) (by kernel_rfl) rfl (by kernel_rfl) ?_
    go_simp
    refine (sameLog_same X1.heap.size _ _ La X1 ra.own.byts rb.own.byts (Nat.le_refl _)).mono ?_
    rintro e X2 ⟨rfl, hbX2⟩
    have hszX2 := hbX2.size
    have s2 : S6 bq9 #[.slice xa La.st.data.length xcap, .int .i64 La.st.power, .int .i64 La.count, .bool La.down] 32 bq11 #[.slice ya La.st.data.length ycap, .int .i64 La.st.power, .int .i64 La.count, .bool La.down] 49 bq13 #[.slice za rs.data.length zcap, .int .i64 rs.power] 28 bq15 #[.slice ua rs.data.length ucap, .int .i64 rs.power] 39 r7 #[.slice ia dl icap, .int .i64 p, .int .i64 c, .bool dn] 32 b3 #[.slice va dl vcap, .int .i64 p, .int .i64 c, .bool dn] 32 X2 := s1.below hbX2
    replace q3 := q3.below hbX2 q3.lt
    replace q7 := q7.below hbX2 q7.lt
    replace q9 := q9.below hbX2 q9.lt
    replace q11 := q11.below hbX2 q11.lt
    replace q13 := q13.below hbX2 q13.lt
    replace q15 := q15.below hbX2 q15.lt
    replace rd := rd.below hbX2
    replace ri := ri.below hbX2
    replace ra := ra.below hbX2
    replace rb := rb.below hbX2
    replace rs1 := rs1.below hbX2
    replace rs2 := rs2.below hbX2
    replace hk := hk.trans (hbX2.mono (by omega))
    refine ⟨s2, ?_⟩
    refine wpAnyD_take (i := 13) (v := .bool false) rfl (by kernel_rfl) (by kernel_rfl) (by kernel_rfl) (by kernel_rfl) (by kernel_rfl) (fun _ _ _ h => h) (.inl ⟨by kernel_rfl, fun W' hS => by go_simp⟩) s2 ?_
    refine wpAnyD_take (i := 14) (v := .bool false) rfl (by kernel_rfl) (by kernel_rfl) (by kernel_rfl) (by kernel_rfl) (by kernel_rfl) (fun _ _ _ h => h) (.inl ⟨by kernel_rfl, fun W' hS => by go_simp⟩) s2 ?_
    refine wpAnyD_take (i := 15) (v := .bool false) rfl (by kernel_rfl) (by kernel_rfl) (by kernel_rfl) (by kernel_rfl) (by kernel_rfl) (fun _ _ _ h => h) (.inl ⟨by kernel_rfl, fun W' hS => by go_simp⟩) s2 ?_
    refine wpAnyD_take (i := 16) (v := .agg #[.slice za rs.data.length zcap, .int .i64 rs.power]) rfl (by kernel_rfl) (by kernel_rfl) (by kernel_rfl) (by kernel_rfl) (by kernel_rfl) (fun _ _ _ h => h) (.inl ⟨by kernel_rfl, fun W' hS => by obtain ⟨c0, c1, f0, f1⟩ := (hS.2.2.1).two; go_simp⟩) s2 ?_
    refine wpAnyD_take (i := 18) (v := .agg #[.slice ua rs.data.length ucap, .int .i64 rs.power]) rfl (by kernel_rfl) (by kernel_rfl) (by kernel_rfl) (by kernel_rfl) (by kernel_rfl) (fun _ _ _ h => h) (.inl ⟨by kernel_rfl, fun W' hS => by obtain ⟨c0, c1, f0, f1⟩ := (hS.2.2.2.1).two; go_simp⟩) s2 ?_
    refine wpAnyD_one (i := 17) (by kernel_rfl) rfl (by kernel_rfl) ?_
    go_simp
    refine (store_any _ _ _ _ X2).mono ?_
    rintro e X3 ⟨rfl, hbX3⟩
    have hszX3 := hbX3.size
    have s3 : S6 bq9 #[.slice xa La.st.data.length xcap, .int .i64 La.st.power, .int .i64 La.count, .bool La.down] 32 bq11 #[.slice ya La.st.data.length ycap, .int .i64 La.st.power, .int .i64 La.count, .bool La.down] 49 bq13 #[.slice za rs.data.length zcap, .int .i64 rs.power] 28 bq15 #[.slice ua rs.data.length ucap, .int .i64 rs.power] 39 r7 #[.slice ia dl icap, .int .i64 p, .int .i64 c, .bool dn] 32 b3 #[.slice va dl vcap, .int .i64 p, .int .i64 c, .bool dn] 32 X3 := s2.below hbX3
    replace q3 := q3.below hbX3 q3.lt
    replace q7 := q7.below hbX3 q7.lt
    replace q9 := q9.below hbX3 q9.lt
    replace q11 := q11.below hbX3 q11.lt
    replace q13 := q13.below hbX3 q13.lt
    replace q15 := q15.below hbX3 q15.lt
    replace rd := rd.below hbX3
    replace ri := ri.below hbX3
    replace ra := ra.below hbX3
    replace rb := rb.below hbX3
    replace rs1 := rs1.below hbX3
    replace rs2 := rs2.below hbX3
    replace hk := hk.trans (hbX3.mono (by omega))
    refine ⟨s3, ?_⟩
    refine wpAnyD_one (i := 19) (by kernel_rfl) rfl (by kernel_rfl) ?_
    go_simp
    refine (sameStore_same X3.heap.size _ _ rs X3 rs1.own.byts rs2.own.byts (Nat.le_refl _)).mono ?_
    rintro e X4 ⟨rfl, hbX4⟩
    have hszX4 := hbX4.size
    have s4 : S6 bq9 #[.slice xa La.st.data.length xcap, .int .i64 La.st.power, .int .i64 La.count, .bool La.down] 32 bq11 #[.slice ya La.st.data.length ycap, .int .i64 La.st.power, .int .i64 La.count, .bool La.down] 49 bq13 #[.slice za rs.data.length zcap, .int .i64 rs.power] 28 bq15 #[.slice ua rs.data.length ucap, .int .i64 rs.power] 39 r7 #[.slice ia dl icap, .int .i64 p, .int .i64 c, .bool dn] 32 b3 #[.slice va dl vcap, .int .i64 p, .int .i64 c, .bool dn] 32 X4 := s3.below hbX4
    replace q3 := q3.below hbX4 q3.lt
    replace q7 := q7.below hbX4 q7.lt
    replace q9 := q9.below hbX4 q9.lt
    replace q11 := q11.below hbX4 q11.lt
    replace q13 := q13.below hbX4 q13.lt
    replace q15 := q15.below hbX4 q15.lt
    replace rd := rd.below hbX4
    replace ri := ri.below hbX4
    replace ra := ra.below hbX4
    replace rb := rb.below hbX4
    replace rs1 := rs1.below hbX4
    replace rs2 := rs2.below hbX4
    replace hk := hk.trans (hbX4.mono (by omega))
    refine ⟨s4, ?_⟩
    refine wpAnyD_take (i := 20) (v := .bool false) rfl (by kernel_rfl) (by kernel_rfl) (by kernel_rfl) (by kernel_rfl) (by kernel_rfl) (fun _ _ _ h => h) (.inl ⟨by kernel_rfl, fun W' hS => by go_simp⟩) s4 ?_
    refine wpAnyD_take (i := 21) (v := .bool false) rfl (by kernel_rfl) (by kernel_rfl) (by kernel_rfl) (by kernel_rfl) (by kernel_rfl) (fun _ _ _ h => h) (.inl ⟨by kernel_rfl, fun W' hS => by go_simp⟩) s4 ?_
    refine wpAnyD_take (i := 22) (v := .bool false) rfl (by kernel_rfl) (by kernel_rfl) (by kernel_rfl) (by kernel_rfl) (by kernel_rfl) (fun _ _ _ h => h) (.inl ⟨by kernel_rfl, fun W' hS => by go_simp⟩) s4 ?_
    refine wpAnyD_take (i := 23) (v := .agg #[.slice ia dl icap, .int .i64 p, .int .i64 c, .bool dn]) rfl (by kernel_rfl) (by kernel_rfl) (by kernel_rfl) (by kernel_rfl) (by kernel_rfl) (fun _ _ _ h => h) (.inl ⟨by kernel_rfl, fun W' hS => by obtain ⟨c0, c1, c2, c3, f0, f1, f2, f3⟩ := (hS.2.2.2.2.1).four; go_simp⟩) s4 ?_
    refine wpAnyD_take (i := 25) (v := .agg #[.slice va dl vcap, .int .i64 p, .int .i64 c, .bool dn]) rfl (by kernel_rfl) (by kernel_rfl) (by kernel_rfl) (by kernel_rfl) (by kernel_rfl) (fun _ _ _ h => h) (.inl ⟨by kernel_rfl, fun W' hS => by obtain ⟨c0, c1, c2, c3, f0, f1, f2, f3⟩ := (hS.2.2.2.2.2).four; go_simp⟩) s4 ?_
    have ris := ri.short (by simp [marks_length])
    rw [HDL.out] at ris
    refine wpAnyD_one (i := 24) (by kernel_rfl) rfl (by kernel_rfl) ?_
    go_simp
    refine (HR.out X4.heap.size _ X4 ris.own.byts (Nat.le_refl _)).mono ?_
    rintro e X5 ⟨rfl, hbX5⟩
    have hszX5 := hbX5.size
    have s5 : S6 bq9 #[.slice xa La.st.data.length xcap, .int .i64 La.st.power, .int .i64 La.count, .bool La.down] 32 bq11 #[.slice ya La.st.data.length ycap, .int .i64 La.st.power, .int .i64 La.count, .bool La.down] 49 bq13 #[.slice za rs.data.length zcap, .int .i64 rs.power] 28 bq15 #[.slice ua rs.data.length ucap, .int .i64 rs.power] 39 r7 #[.slice ia dl icap, .int .i64 p, .int .i64 c, .bool dn] 32 b3 #[.slice va dl vcap, .int .i64 p, .int .i64 c, .bool dn] 32 X5 := s4.below hbX5
    replace q3 := q3.below hbX5 q3.lt
    replace q7 := q7.below hbX5 q7.lt
    replace q9 := q9.below hbX5 q9.lt
    replace q11 := q11.below hbX5 q11.lt
    replace q13 := q13.below hbX5 q13.lt
    replace q15 := q15.below hbX5 q15.lt
    replace rd := rd.below hbX5
    replace ri := ri.below hbX5
    replace ra := ra.below hbX5
    replace rb := rb.below hbX5
    replace rs1 := rs1.below hbX5
    replace rs2 := rs2.below hbX5
    replace hk := hk.trans (hbX5.mono (by omega))
    refine ⟨s5, ?_⟩
    refine wpAnyD_one (i := 26) (by kernel_rfl) rfl (by kernel_rfl) ?_
    go_simp
    refine (plain_any _ _ _ _ _ _ X5).mono ?_
    rintro e X6 ⟨rfl, hbX6⟩
    have hszX6 := hbX6.size
    have s6 : S6 bq9 #[.slice xa La.st.data.length xcap, .int .i64 La.st.power, .int .i64 La.count, .bool La.down] 32 bq11 #[.slice ya La.st.data.length ycap, .int .i64 La.st.power, .int .i64 La.count, .bool La.down] 49 bq13 #[.slice za rs.data.length zcap, .int .i64 rs.power] 28 bq15 #[.slice ua rs.data.length ucap, .int .i64 rs.power] 39 r7 #[.slice ia dl icap, .int .i64 p, .int .i64 c, .bool dn] 32 b3 #[.slice va dl vcap, .int .i64 p, .int .i64 c, .bool dn] 32 X6 := s5.below hbX6
    replace q3 := q3.below hbX6 q3.lt
    replace q7 := q7.below hbX6 q7.lt
    replace q9 := q9.below hbX6 q9.lt
    replace q11 := q11.below hbX6 q11.lt
    replace q13 := q13.below hbX6 q13.lt
    replace q15 := q15.below hbX6 q15.lt
    replace rd := rd.below hbX6
    replace ri := ri.below hbX6
    replace ra := ra.below hbX6
    replace rb := rb.below hbX6
    replace rs1 := rs1.below hbX6
    replace rs2 := rs2.below hbX6
    replace hk := hk.trans (hbX6.mono (by omega))
    refine ⟨s6, ?_⟩
    refine wpAnyD_one (i := 27) (by kernel_rfl) rfl (by kernel_rfl) ?_
    go_simp
    refine (HR2.out X6.heap.size _ X6 (HV.out.below (K' := X6.heap.size) hk (by omega)) (Nat.le_refl _)).mono ?_
    rintro e X7 ⟨rfl, hbX7⟩
    have hszX7 := hbX7.size
    have s7 : S6 bq9 #[.slice xa La.st.data.length xcap, .int .i64 La.st.power, .int .i64 La.count, .bool La.down] 32 bq11 #[.slice ya La.st.data.length ycap, .int .i64 La.st.power, .int .i64 La.count, .bool La.down] 49 bq13 #[.slice za rs.data.length zcap, .int .i64 rs.power] 28 bq15 #[.slice ua rs.data.length ucap, .int .i64 rs.power] 39 r7 #[.slice ia dl icap, .int .i64 p, .int .i64 c, .bool dn] 32 b3 #[.slice va dl vcap, .int .i64 p, .int .i64 c, .bool dn] 32 X7 := s6.below hbX7
    replace q3 := q3.below hbX7 q3.lt
    replace q7 := q7.below hbX7 q7.lt
    replace q9 := q9.below hbX7 q9.lt
    replace q11 := q11.below hbX7 q11.lt
    replace q13 := q13.below hbX7 q13.lt
    replace q15 := q15.below hbX7 q15.lt
    replace rd := rd.below hbX7
    replace ri := ri.below hbX7
    replace ra := ra.below hbX7
    replace rb := rb.below hbX7
    replace rs1 := rs1.below hbX7
    replace rs2 := rs2.below hbX7
    replace hk := hk.trans (hbX7.mono (by omega))
    refine ⟨s7, ?_⟩
    refine wpAnyD_take (i := 28) (v := .bool false) rfl (by kernel_rfl) (by kernel_rfl) (by kernel_rfl) (by kernel_rfl) (by kernel_rfl) (fun _ _ _ h => h) (.inl ⟨by kernel_rfl, fun W' hS => by go_simp⟩) s7 ?_
    refine wpAnyD_take (i := 29) (v := .bool false) rfl (by kernel_rfl) (by kernel_rfl) (by kernel_rfl) (by kernel_rfl) (by kernel_rfl) (fun _ _ _ h => h) (.inl ⟨by kernel_rfl, fun W' hS => by go_simp⟩) s7 ?_
    refine wpAnyD_done (by kernel_rfl) ?_ _
    clear s0 s1 s2 s3 s4 s5 s6 s7 ris hd9 hbX1 hbX2 hbX3 hbX4 hbX5 hbX6 hbX7
    obtain ⟨c0, c1, c2, c3, f0, f1, f2, f3⟩ := q7.four
    obtain ⟨d0, d1, d2, d3, g0, g1, g2, g3⟩ := q3.four
    obtain ⟨e0, e1, e2, e3, k0, k1, k2, k3⟩ := q9.four
    obtain ⟨m0, m1, n0, n1⟩ := q13.two
    have hkp := kept_any X7.heap.size ia icap (.slice va dl vcap) ld X7 (by rw [HDL.out]; exact ri.own.byts) (HV.out.below (K' := X7.heap.size) hk (by omega)) (by rw [HDL.out]; omega)
    rw [HDL.out] at hkp
    go_wp2_with fail
    refine hkp.mono ?_
    rintro e X8 ⟨rfl, z1, rfl⟩
    have hd10 := below_drewN' (B := X7.heap.size) (w := X7) z1
    replace q3 := q3.below hd10 q3.lt
    replace q7 := q7.below hd10 q7.lt
    replace q9 := q9.below hd10 q9.lt
    replace q11 := q11.below hd10 q11.lt
    replace q13 := q13.below hd10 q13.lt
    replace q15 := q15.below hd10 q15.lt
    replace rd := rd.below hd10
    replace ri := ri.below hd10
    replace ra := ra.below hd10
    replace rb := rb.below hd10
    replace rs1 := rs1.below hd10
    replace rs2 := rs2.below hd10
    replace hk := hk.trans (hd10.mono (by omega))
    obtain ⟨X8, hX8⟩ : ∃ X, X7.drewN z1 = X := ⟨_, rfl⟩
    have hsz10 : X7.heap.size = X8.heap.size := by rw [← hX8]; rfl
    rw [hX8] at q3 q7 q9 q11 q13 q15 rd ri ra rb rs1 rs2 hk ⊢
    clear hX8 hkp hd10 c0 c1 c2 c3 f0 f1 f2 f3 d0 d1 d2 d3 g0 g1 g2 g3 e0 e1 e2 e3 k0 k1 k2 k3 m0 m1 n0 n1
    obtain ⟨c0, c1, c2, c3, f0, f1, f2, f3⟩ := q7.four
    obtain ⟨e0, e1, e2, e3, k0, k1, k2, k3⟩ := q9.four
    obtain ⟨m0, m1, n0, n1⟩ := q13.two
    go_wp2_with fail
    refine (kept_any X8.heap.size la lcap (.slice da d.length dcap) d X8 rd.own.byts (HD.out.below (K' := X8.heap.size) hk (by omega)) (by omega)).mono ?_
    rintro e X9 ⟨rfl, z2, rfl⟩
    have hd11 := below_drewN' (B := X8.heap.size) (w := X8) z2
    replace q3 := q3.below hd11 q3.lt
    replace q7 := q7.below hd11 q7.lt
    replace q9 := q9.below hd11 q9.lt
    replace q11 := q11.below hd11 q11.lt
    replace q13 := q13.below hd11 q13.lt
    replace q15 := q15.below hd11 q15.lt
    replace rd := rd.below hd11
    replace ri := ri.below hd11
    replace ra := ra.below hd11
    replace rb := rb.below hd11
    replace rs1 := rs1.below hd11
    replace rs2 := rs2.below hd11
    replace hk := hk.trans (hd11.mono (by omega))
    obtain ⟨X9, hX9⟩ : ∃ X, X8.drewN z2 = X := ⟨_, rfl⟩
    have hsz11 : X8.heap.size = X9.heap.size := by rw [← hX9]; rfl
    rw [hX9] at q3 q7 q9 q11 q13 q15 rd ri ra rb rs1 rs2 hk ⊢
    clear hX9 hd11 c0 c1 c2 c3 f0 f1 f2 f3 e0 e1 e2 e3 k0 k1 k2 k3 m0 m1 n0 n1
    obtain ⟨c0, c1, c2, c3, f0, f1, f2, f3⟩ := q7.four
    obtain ⟨e0, e1, e2, e3, k0, k1, k2, k3⟩ := q9.four
    obtain ⟨m0, m1, n0, n1⟩ := q13.two
    have ris := ri.short (by simp [marks_length])
    have rds := rd.short (by simp [marks_length])
    rw [HDL.out] at ris
    have hsmall : ∀ k, k < 4 → (([La.st.data, rs.data, ld, d] : List (List UInt8))[k]?.getD []).length ≤ 2 ^ 22 := by
      have g1 := HAL.out; have g2 := HRL.out; have g3 := HDL.out
      intro k hk
      match k, hk with
      | 0, _ => simp; omega
      | 1, _ => simp; omega
      | 2, _ => simp; omega
      | 3, _ => simp; omega
    have hnod : (blocks [.slice xa La.st.data.length xcap, .slice za rs.data.length zcap, .slice ia dl icap, .slice la d.length lcap]).Nodup := nodup4 rds ris ra rs1 (Nat.le_refl _) (by omega) (by omega) (by omega) (by omega)
    have hka : Below X9.heap.size X9 (X9.alloc (.cells #[.slice xa La.st.data.length xcap, .slice za rs.data.length zcap, .slice ia dl icap, .slice la d.length lcap] 22)) := (Below.refl _ X9).alloc (Nat.le_refl _) _
    replace ra := ra.below hka
    replace rs1 := rs1.below hka
    replace ris := ris.below hka
    replace rds := rds.below hka
    replace hk := hk.trans (hka.mono (by omega))
    have htwo : ∀ i, i < [Value.slice xa La.st.data.length xcap, .slice za rs.data.length zcap, .slice ia dl icap, .slice la d.length lcap].length → OwnB b3 (X9.alloc (.cells #[.slice xa La.st.data.length xcap, .slice za rs.data.length zcap, .slice ia dl icap, .slice la d.length lcap] 22)) ([Value.slice xa La.st.data.length xcap, .slice za rs.data.length zcap, .slice ia dl icap, .slice la d.length lcap][i]?.getD undef) (([La.st.data, rs.data, ld, d] : List (List UInt8))[i]?.getD []) := by
      intro i hi
      match i, hi with
      | 0, _ => exact ra.own.mono (by omega)
      | 1, _ => exact rs1.own.mono (by omega)
      | 2, _ => exact ris.own.mono (by omega)
      | 3, _ => exact rds.own.mono (by omega)
    have hfs : FS b3 (X9.alloc (.cells #[.slice xa La.st.data.length xcap, .slice za rs.data.length zcap, .slice ia dl icap, .slice la d.length lcap] 22)) _ 4 X9.heap.size #[.slice xa La.st.data.length xcap, .slice za rs.data.length zcap, .slice ia dl icap, .slice la d.length lcap] _ _ _ _ := ⟨two_of htwo hnod, Blk.new X9 _ _, Below.refl _ _, by simp; omega, fun _ _ _ _ h => h⟩
    have HFS := Lib.hid hfs; have HSM := Lib.hid hsmall
    clear hfs hsmall htwo hnod hka
    go_wp2_with fail
    refine (apart_any b3 _ 4 4 X9.heap.size _ _ _ HFS.out (by omega) (by omega) (by omega) (fun k hk => by match k, hk with | 0, _ => rfl | 1, _ => rfl | 2, _ => rfl | 3, _ => rfl) HSM.out (by omega)).mono ?_
    rintro e Y ⟨rfl, hbY⟩
    have hfin := hk.trans hbY
    go_wp2_with fail
    go_ret
    exact ⟨rfl, by rw [HB3.out]; exact hfin⟩
end Go.Proofs.YtkdlimigepkepaaGreat

