/- JournalTorn: the walk. No conditions beyond the readings of the arguments. -/
import Derived.Test.YtkdlimigepkepaaOwnL
import Derived.Test.YtkdlimigepkepaaJLawT
import Derived.Test.YtkdlimigepkepaaOpn
import Derived.Test.YtkdlimigepkepaaLPrefix
import Derived.Deep.CutRange
namespace Go.Proofs.Ytkdlimigepkepaa
open Go.RowKit
set_option linter.unusedVariables false

/-- What the law keeps: the log in its box, the texts that were added. -/
structure TS (w wr : World) (b5 : Nat) (L : Lg) (a5 : Option Addr) (c5 : Nat) (s6 : Value) (kept : List (List UInt8)) : Prop where
  box : Blk wr b5 #[.slice a5 L.st.data.length c5, .int .i64 L.st.power, .int .i64 L.count, .bool L.down] 29
  own : OwnB (b5 + 1) wr (.slice a5 L.st.data.length c5) L.st.data
  kp : Kp w.heap.size (b5 + 1) wr s6 kept
  bel : Below w.heap.size w wr
  base : w.heap.size ≤ b5
  inv : Inv L kept
  pow : L.st.power ≤ 2 ^ 63 - 1

theorem TS.lt {w wr : World} {b5 : Nat} {L : Lg} {a5 : Option Addr} {c5 : Nat} {s6 : Value} {kept : List (List UInt8)} (h : TS w wr b5 L a5 c5 s6 kept) : b5 < wr.heap.size := h.box.lt
theorem TS.below {w wr wx : World} {b5 : Nat} {L : Lg} {a5 : Option Addr} {c5 : Nat} {s6 : Value} {kept : List (List UInt8)} (h : TS w wr b5 L a5 c5 s6 kept) (hb : Below wr.heap.size wr wx) : TS w wx b5 L a5 c5 s6 kept :=
  have h0 := h.lt
  have h1 := h.base
  ⟨h.box.below hb h0, h.own.below hb (Nat.le_refl _), h.kp.below hb (Nat.le_refl _) (by omega), h.bel.trans (hb.mono (by omega)), h.base, h.inv, h.pow⟩

/-- The log is written anew into its box. -/
theorem TS.put {w wr : World} {b5 : Nat} {L L' : Lg} {a5 a' : Option Addr} {c5 c' : Nat} {s6 : Value} {kept kept' : List (List UInt8)} (h : TS w wr b5 L a5 c5 s6 kept) (hk : Kp w.heap.size (b5 + 1) wr s6 kept')
    (ho : OwnB (b5 + 1) wr (.slice a' L'.st.data.length c') L'.st.data) (hi : Inv L' kept') (hp : L'.st.power ≤ 2 ^ 63 - 1) :
    TS w ((((wr.setCell ⟨b5, 0, none⟩ (.slice a' L'.st.data.length c')).setCell ⟨b5, 1, none⟩ (.int .i64 L'.st.power)).setCell ⟨b5, 2, none⟩ (.int .i64 L'.count)).setCell ⟨b5, 3, none⟩ (.bool L'.down)) b5 L' a' c' s6 kept' := by
  obtain ⟨w', hw', hq, hb, ha, hs⟩ := put4 h.box (.slice a' L'.st.data.length c') (.int .i64 L'.st.power) (.int .i64 L'.count) (.bool L'.down)
  rw [hw']
  have h1 := h.base
  exact ⟨hq, ho.above ha (Nat.le_refl _), hk.above ha (Nat.le_refl _) (hb.mono h1), h.bel.trans (hb.mono h1), h1, hi, hp⟩

theorem TS.put2 {w wr : World} {b5 : Nat} {L' : Lg} {a' : Option Addr} {c' : Nat} {s6 x y z u : Value} {kept' : List (List UInt8)} (hbox : Blk wr b5 #[x, y, z, u] 29) (hk : Kp w.heap.size (b5 + 1) wr s6 kept')
    (ho : OwnB (b5 + 1) wr (.slice a' L'.st.data.length c') L'.st.data) (hbel : Below w.heap.size w wr) (h1 : w.heap.size ≤ b5) (hi : Inv L' kept') (hp : L'.st.power ≤ 2 ^ 63 - 1) :
    TS w ((((wr.setCell ⟨b5, 0, none⟩ (.slice a' L'.st.data.length c')).setCell ⟨b5, 1, none⟩ (.int .i64 L'.st.power)).setCell ⟨b5, 2, none⟩ (.int .i64 L'.count)).setCell ⟨b5, 3, none⟩ (.bool L'.down)) b5 L' a' c' s6 kept' := by
  obtain ⟨w', hw', hq, hb, ha, hs⟩ := put4 hbox (.slice a' L'.st.data.length c') (.int .i64 L'.st.power) (.int .i64 L'.count) (.bool L'.down)
  rw [hw']
  exact ⟨hq, ho.above ha (Nat.le_refl _), hk.above ha (Nat.le_refl _) (hb.mono h1), hbel.trans (hb.mono h1), h1, hi, hp⟩

theorem add_at' {l L : Lg} {pl : List UInt8} {c : Int} {dn : Bool} (hr : addS l pl = (L, c)) (hd : l.down = dn) (K : Nat) (v vp : Value) (w : World) (hv : Byts K w v l.st.data) (hvp : Byts K w vp pl) (hK : K ≤ w.heap.size) (hp : l.st.power ≤ 2 ^ 63 - 1) :
    Calls Try.prog 19 #[.agg #[v, .int .i64 l.st.power, .int .i64 l.count, .bool dn], vp] w fun e w' => ∃ a cap,
      e = .returned (.tuple #[.agg #[.slice a L.st.data.length cap, .int .i64 L.st.power, .int .i64 L.count, .bool L.down], .int .i64 c]) ∧ OwnB w.heap.size w' (.slice a L.st.data.length cap) L.st.data ∧ Below w.heap.size w w' := by
  subst hd
  exact add_at hr K v vp w hv hvp hK hp

def S11 (b5 : Nat) (cs : Array Value) (ad : Addr) (p : Int) (W : World) : Prop := Blk W b5 cs 29 ∧ W.cell? ad = some (.int .i64 p)

theorem OwnB.notNew' {base : Nat} {W : World} {v : Value} {l : List UInt8} (h : OwnB base W v l) : v.ownBlock ≠ some W.heap.size := fun e => by
  have := h.lt e; omega
theorem OwnB.keptB2' {base : Nat} {W W' : World} {v : Value} {l : List UInt8} (h : OwnB base W v l) {r : Nat} (hne : v.ownBlock ≠ some r) {x y : Value}
    (hW : (W.setCell ⟨r, 0, none⟩ x).setCell ⟨r, 1, none⟩ y = W') : Byts W'.heap.size W' v l := by
  subst hW
  exact ((h.kept (grownBy_setCell W r 0 x) (.inr hne)).kept (grownBy_setCell _ r 1 y) (.inr hne)).byts

set_option maxRecDepth 100000 in
set_option maxHeartbeats 16000000 in
theorem torn_walk (vp v : Value) (zs : List Int) (ps : List (List UInt8)) (w : World) (hz : Ints w vp zs) (hv : Txts w.heap.size w v ps) :
    Calls Try.prog 4 #[vp, v] w fun e w' => e = .returned (.bool true) ∧ Below w.heap.size w w' := by
  obtain ⟨za, zcap, rfl, hzl, hzm, hzr, hzc⟩ := hz
  obtain ⟨pa, pcap, rfl, hpl, hpm, hpc⟩ := id hv
  have HV := Lib.hid hv; have HPC := Lib.hid hpc; have HZC := Lib.hid hzc; have HZR := Lib.hid hzr
  have hpm' : pcap ≤ 2 ^ 63 - 1 := by unfold maxLen at hpm; omega
  have hzm' : zcap ≤ 2 ^ 63 - 1 := by unfold maxLen at hzm; omega
  clear hv hpc hpm hzc hzr hzm
  go_enter Try.func4, Try.ntmps4
  go_wp2_with fail
  refine (awake_any _).mono ?_
  rintro e w1 ⟨rfl, hq1⟩
  by_cases hz20 : 20 < zs.length
  · have t : decide ((20 : Int) < (zs.length : Int)) = true := by simp; omega
    clear hz20
    go_wp2_with fail
    go_ret
    exact ⟨rfl, hq1⟩
  have t20 : decide ((20 : Int) < (zs.length : Int)) = false := by simp; omega
  have hz20' : zs.length ≤ 20 := by omega
  clear hz20
  go_wp2_with fail
  refine (short_any w1.heap.size _ ps 20 w1 (HV.out.below hq1 hq1.size)).mono ?_
  rintro e w2 ⟨rfl, rfl⟩
  cases hsh : shortB ps 20 with
  | false =>
    clear hsh
    go_wp2_with fail
    go_ret
    exact ⟨rfl, hq1⟩
  | true =>
    obtain ⟨hl20, h300, hfits⟩ := shortB_facts (m := 20) hsh
    have H3 := Lib.hid h300
    clear hsh h300 hfits
    go_wp2_with fail
    have hstart : TS w (w1.alloc (.cells #[.slice none 0 0, .int .i64 0, .int .i64 0, .bool false] 29)) w1.heap.size zLg none 0 (.slice none 0 0) [] :=
      ⟨Blk.new w1 _ _, OwnB.nil _ _, Kp.nil _ _ _, hq1.alloc hq1.size _, hq1.size, inv_zero, by decide⟩
    obtain ⟨b5, hb5⟩ : ∃ b, w1.heap.size = b := ⟨_, rfl⟩
    rw [hb5] at hstart ⊢
    go_loopw [6, 7, 8, 9, 10, 11, 12, 13, 14, 15, 16, 17] (fun s6 s7 s8 s9 s10 s11 s12 s13 s14 s15 s16 s17 wr => ∃ (i : Nat) (L : Lg) (a5 : Option Addr) (c5 : Nat) (kept : List (List UInt8)), i ≤ zs.length ∧ s8 = .int .i64 i ∧ s7 = .int .i64 (kept.length : Nat) ∧
        kept.length ≤ 20 * i ∧ TS w wr b5 L a5 c5 s6 kept) (fun s6 s7 s8 s9 s10 s11 s12 s13 s14 s15 s16 s17 _ => zs.length - (intOf s8).toNat)
    case atStart => exact ⟨0, zLg, none, 0, [], Nat.zero_le _, rfl, rfl, Nat.le_refl _, hstart⟩
    case round =>
      obtain ⟨i, L, a5, c5, kept, hi, rfl, rfl, hkl, hts⟩ := hrel
      by_cases hlt : i < zs.length
      · obtain ⟨zb, zo, hza, hzbK, hzc0⟩ := HZC.out i hlt
        subst hza
        obtain ⟨p, hp⟩ : ∃ p, zs[i]?.getD 0 = p := ⟨_, rfl⟩
        have hpr := HZR.out p (by rw [← hp]; simp [hlt])
        rw [hp] at hzc0
        have hzcr : wr.cell? ⟨zb, zo + i, none⟩ = some (.int .i64 p) := (hts.bel.cell (p := ⟨zb, zo + i, none⟩) hzbK).trans hzc0
        have HP := Lib.hid hpr
        clear hp hzc0 hpr
        go_upto_region 11 with fail
        obtain ⟨⟨rs, code⟩, hrs⟩ : ∃ x, restoreS L p = x := ⟨_, rfl⟩
        go_cut [9, 10] from 39 to 47 (fun s9 s10 wx => ∃ r ra rc, s9 = .pointer (some ⟨r, 0, none⟩) ∧ s10 = .int .i64 code ∧ wr.heap.size ≤ r ∧ Blk wx r #[.slice ra rs.data.length rc, .int .i64 rs.power] 27 ∧ Byts wx.heap.size wx (.slice ra rs.data.length rc) rs.data ∧ Below wr.heap.size wr wx)
        case first =>
          refine region_plain (S11 b5 #[.slice a5 L.st.data.length c5, .int .i64 L.st.power, .int .i64 L.count, .bool L.down] ⟨zb, zo + i, none⟩ p) [] (by kernel_rfl) ?_
          have q0 : S11 b5 #[.slice a5 L.st.data.length c5, .int .i64 L.st.power, .int .i64 L.count, .bool L.down] ⟨zb, zo + i, none⟩ p wr.drew := ⟨hts.box, hzcr⟩
          refine wpAnyD_take (i := 0) (v := .agg #[.slice a5 L.st.data.length c5, .int .i64 L.st.power, .int .i64 L.count, .bool L.down]) rfl (by kernel_rfl) (by kernel_rfl) (by kernel_rfl) (by kernel_rfl) (by kernel_rfl) (fun _ _ _ h => h) (.inl ⟨by kernel_rfl, fun W' hS => by obtain ⟨c0, c1, c2, c3, f0, f1, f2, f3⟩ := hS.1.four; go_simp⟩) q0 ?_
          refine wpAnyD_take (i := 1) (v := .slice (some ⟨zb, zo, none⟩) zs.length zcap) rfl (by kernel_rfl) (by kernel_rfl) (by kernel_rfl) (by kernel_rfl) (by kernel_rfl) (fun _ _ _ h => h) (.inl ⟨by kernel_rfl, fun W' hS => by go_simp⟩) q0 ?_
          refine wpAnyD_take (i := 2) (v := .int .i64 i) rfl (by kernel_rfl) (by kernel_rfl) (by kernel_rfl) (by kernel_rfl) (by kernel_rfl) (fun _ _ _ h => h) (.inl ⟨by kernel_rfl, fun W' hS => by go_simp⟩) q0 ?_
          refine wpAnyD_take (i := 3) (v := .pointer (some ⟨zb, zo + i, none⟩)) rfl (by kernel_rfl) (by kernel_rfl) (by kernel_rfl) (by kernel_rfl) (by kernel_rfl) (fun _ _ _ h => h) (.inl ⟨by kernel_rfl, fun W' hS => by go_simp⟩) q0 ?_
          refine wpAnyD_take (i := 4) (v := .int .i64 p) rfl (by kernel_rfl) (by kernel_rfl) (by kernel_rfl) (by kernel_rfl) (by kernel_rfl) (fun _ _ _ h => h) (.inl ⟨by kernel_rfl, fun W' hS => by have h2 := hS.2; go_simp⟩) q0 ?_
          obtain ⟨W0, hW0⟩ : ∃ X, wr.drew = X := ⟨_, rfl⟩
          have hk0 : Below wr.heap.size wr wr.drew := (Below.refl _ wr).drew
          have hsz0 : wr.heap.size ≤ wr.drew.heap.size := Nat.le_refl _
          rw [hW0] at q0 hk0 hsz0 ⊢
          clear hW0
          have hb50 := hts.lt
          have hbw := hts.base
          have own0 := hts.own.below hk0 (Nat.le_refl _)
          refine wpAnyD_both (i := 5) (j := 9) (by kernel_rfl) rfl rfl (by kernel_rfl) (by kernel_rfl) ?_ ?_
          · go_simp
            refine (restore_at hrs W0.heap.size _ W0 own0.byts (Nat.le_refl _)).mono ?_
            rintro e W1 ⟨ra, rc, rfl, hro, hrb⟩
            have q1 : S11 b5 #[.slice a5 L.st.data.length c5, .int .i64 L.st.power, .int .i64 L.count, .bool L.down] ⟨zb, zo + i, none⟩ p _ := ⟨q0.1.below hrb (by omega), (hrb.cell (p := ⟨zb, zo + i, none⟩) (show zb < W0.heap.size by omega)).trans q0.2⟩
            refine ⟨q1, ?_⟩
            have hs1 := hrb.size
            refine wpAnyD_take (i := 6) (v := .tuple #[.agg #[.slice ra rs.data.length rc, .int .i64 rs.power], .int .i64 code]) rfl (by kernel_rfl) (by kernel_rfl) (by kernel_rfl) (by kernel_rfl) (by kernel_rfl) (fun _ _ _ h => h) (.inl ⟨by kernel_rfl, fun W' hS => by go_simp⟩) q1 ?_
            refine wpAnyD_take (i := 7) (v := .agg #[.slice ra rs.data.length rc, .int .i64 rs.power]) rfl (by kernel_rfl) (by kernel_rfl) (by kernel_rfl) (by kernel_rfl) (by kernel_rfl) (fun _ _ _ h => h) (.inl ⟨by kernel_rfl, fun W' hS => by go_simp⟩) q1 ?_
            refine wpAnyD_take (i := 8) (v := .int .i64 code) rfl (by kernel_rfl) (by kernel_rfl) (by kernel_rfl) (by kernel_rfl) (by kernel_rfl) (fun _ _ _ h => h) (.inl ⟨by kernel_rfl, fun W' hS => by go_simp⟩) q1 ?_
            refine wpAnyD_one (i := 9) (by kernel_rfl) rfl (by kernel_rfl) ?_
            go_simp
            have q2 : S11 b5 #[.slice a5 L.st.data.length c5, .int .i64 L.st.power, .int .i64 L.count, .bool L.down] ⟨zb, zo + i, none⟩ p _ := ⟨q1.1.alloc (.cells #[.slice none 0 0, .int .i64 0] 27), ((Below.refl _ W1).alloc (Nat.le_refl _) (.cells #[.slice none 0 0, .int .i64 0] 27)).cell (p := ⟨zb, zo + i, none⟩) (show zb < W1.heap.size by omega) |>.trans q1.2⟩
            refine ⟨q2, ?_⟩
            have ab := Blk.new W1 #[.slice none 0 0, .int .i64 0] 27
            have hne := hro.notNew'
            have hro2 := hro.alloc (.cells #[.slice none 0 0, .int .i64 0] 27)
            have hk2 : Below wr.heap.size wr (W1.alloc (.cells #[.slice none 0 0, .int .i64 0] 27)) := (hk0.trans (hrb.mono (by omega))).alloc (by omega) _
            have hrr : wr.heap.size ≤ W1.heap.size := by omega
            obtain ⟨W2, hW2⟩ : ∃ X, W1.alloc (.cells #[.slice none 0 0, .int .i64 0] 27) = X := ⟨_, rfl⟩
            obtain ⟨r, hr⟩ : ∃ X, W1.heap.size = X := ⟨_, rfl⟩
            rw [hW2] at q2 ab hro2 hk2 ⊢
            rw [hr] at ab hne hrr ⊢
            clear hr hW2
            obtain ⟨e0, e1, g0, g1⟩ := ab.two
            refine wpAnyD_one (i := 10) (by kernel_rfl) rfl (by kernel_rfl) ?_
            go_simp
            obtain ⟨W3, hW3, ab3, hp3, hv3, hz3⟩ := put2 ab (.slice ra rs.data.length rc) (.int .i64 rs.power)
            rw [hW3]
            have q3 : S11 b5 #[.slice a5 L.st.data.length c5, .int .i64 L.st.power, .int .i64 L.count, .bool L.down] ⟨zb, zo + i, none⟩ p _ := ⟨q2.1.below hp3 (by omega), (hp3.cell (p := ⟨zb, zo + i, none⟩) (show zb < r by omega)).trans q2.2⟩
            refine ⟨q3, ?_⟩
            refine wpAnyD_one (i := 11) (by kernel_rfl) rfl (by kernel_rfl) ?_
            go_simp
            have hby := hro2.keptB2' hne hW3
            refine wpAnyD_done (by kernel_rfl) ?_ _
            go_wp2_with fail
            go_meet
            exact ⟨r, ra, rc, rfl, rfl, hrr, ab3, hby, hk2.trans (hp3.mono hrr)⟩
          · go_simp
            have q1 : S11 b5 #[.slice a5 L.st.data.length c5, .int .i64 L.st.power, .int .i64 L.count, .bool L.down] ⟨zb, zo + i, none⟩ p _ := ⟨q0.1.alloc (.cells #[.slice none 0 0, .int .i64 0] 27), ((Below.refl _ W0).alloc (Nat.le_refl _) (.cells #[.slice none 0 0, .int .i64 0] 27)).cell (p := ⟨zb, zo + i, none⟩) (show zb < W0.heap.size by omega) |>.trans q0.2⟩
            refine ⟨q1, ?_⟩
            have ab1 := Blk.new W0 #[.slice none 0 0, .int .i64 0] 27
            have own1 := own0.alloc (.cells #[.slice none 0 0, .int .i64 0] 27)
            have hk1 : Below wr.heap.size wr (W0.alloc (.cells #[.slice none 0 0, .int .i64 0] 27)) := hk0.alloc (by omega) _
            have hrr : wr.heap.size ≤ W0.heap.size := by omega
            obtain ⟨W1, hW1⟩ : ∃ X, W0.alloc (.cells #[.slice none 0 0, .int .i64 0] 27) = X := ⟨_, rfl⟩
            have hs1 : W0.heap.size + 1 = W1.heap.size := by rw [← hW1]; simp
            obtain ⟨r, hr⟩ : ∃ X, W0.heap.size = X := ⟨_, rfl⟩
            rw [hW1] at q1 ab1 own1 hk1 ⊢
            rw [hr] at ab1 hrr hs1 ⊢
            clear hr hW1
            refine wpAnyD_one (i := 5) (by kernel_rfl) rfl (by kernel_rfl) ?_
            go_simp
            refine (restore_at hrs W1.heap.size _ W1 own1.byts (Nat.le_refl _)).mono ?_
            rintro e W2 ⟨ra, rc, rfl, hro, hrb⟩
            have q2 : S11 b5 #[.slice a5 L.st.data.length c5, .int .i64 L.st.power, .int .i64 L.count, .bool L.down] ⟨zb, zo + i, none⟩ p _ := ⟨q1.1.below hrb (by omega), (hrb.cell (p := ⟨zb, zo + i, none⟩) (show zb < W1.heap.size by omega)).trans q1.2⟩
            refine ⟨q2, ?_⟩
            have ab := ab1.below hrb (by omega)
            have hne : (Value.slice ra rs.data.length rc).ownBlock ≠ some r := fun h => by have := (ownsRow_cells hro h).1; omega
            have hro2 := hro
            have hk2 : Below wr.heap.size wr W2 := hk1.trans (hrb.mono (by omega))
            refine wpAnyD_take (i := 6) (v := .tuple #[.agg #[.slice ra rs.data.length rc, .int .i64 rs.power], .int .i64 code]) rfl (by kernel_rfl) (by kernel_rfl) (by kernel_rfl) (by kernel_rfl) (by kernel_rfl) (fun _ _ _ h => h) (.inl ⟨by kernel_rfl, fun W' hS => by go_simp⟩) q2 ?_
            refine wpAnyD_take (i := 7) (v := .agg #[.slice ra rs.data.length rc, .int .i64 rs.power]) rfl (by kernel_rfl) (by kernel_rfl) (by kernel_rfl) (by kernel_rfl) (by kernel_rfl) (fun _ _ _ h => h) (.inl ⟨by kernel_rfl, fun W' hS => by go_simp⟩) q2 ?_
            refine wpAnyD_take (i := 8) (v := .int .i64 code) rfl (by kernel_rfl) (by kernel_rfl) (by kernel_rfl) (by kernel_rfl) (by kernel_rfl) (fun _ _ _ h => h) (.inl ⟨by kernel_rfl, fun W' hS => by go_simp⟩) q2 ?_
            obtain ⟨e0, e1, g0, g1⟩ := ab.two
            refine wpAnyD_one (i := 10) (by kernel_rfl) rfl (by kernel_rfl) ?_
            go_simp
            obtain ⟨W3, hW3, ab3, hp3, hv3, hz3⟩ := put2 ab (.slice ra rs.data.length rc) (.int .i64 rs.power)
            rw [hW3]
            have q3 : S11 b5 #[.slice a5 L.st.data.length c5, .int .i64 L.st.power, .int .i64 L.count, .bool L.down] ⟨zb, zo + i, none⟩ p _ := ⟨q2.1.below hp3 (by omega), (hp3.cell (p := ⟨zb, zo + i, none⟩) (show zb < r by omega)).trans q2.2⟩
            refine ⟨q3, ?_⟩
            refine wpAnyD_one (i := 11) (by kernel_rfl) rfl (by kernel_rfl) ?_
            go_simp
            have hby := hro2.keptB2' hne hW3
            refine wpAnyD_done (by kernel_rfl) ?_ _
            go_wp2_with fail
            go_meet
            exact ⟨r, ra, rc, rfl, rfl, hrr, ab3, hby, hk2.trans (hp3.mono hrr)⟩
        case rest =>
          obtain ⟨r, ra, rc, rfl, rfl, hrr, ab, hby, hbx⟩ := hcut
          have hts1 := hts.below hbx
          have hzc1 : wc.cell? ⟨zb, zo + i, none⟩ = some (.int .i64 p) := (hbx.cell (p := ⟨zb, zo + i, none⟩) (show zb < wr.heap.size by have := hts.lt; have := hts.base; omega)).trans hzcr
          have hrl := ab.lt
          by_cases hp1 : p < -1
          · have hrb := hts.inv.restore_bad hp1
            rw [hrs] at hrb
            simp only [Prod.mk.injEq] at hrb
            obtain ⟨-, rfl⟩ := hrb
            have t1 : decide (p < (-1 : Int)) = true := by simp; omega
            clear hp1 hts hzcr hbx hby
            go_wp2_with fail
            go_roundw
            case rel => exact ⟨i + 1, L, a5, c5, kept, by omega, by go_num, rfl, by omega, hts1⟩
            case measure => simp [intOf]; omega
          · have t1 : decide (p < (-1 : Int)) = false := by simp; omega
            have hrb := hts.inv.restore (p := p) (by omega)
            rw [hrs] at hrb
            simp only [Prod.mk.injEq] at hrb
            obtain ⟨rfl, rfl⟩ := hrb
            simp only at ab hby ⊢
            obtain ⟨e0, e1, g0, g1⟩ := ab.two
            have hp63 : p ≤ 2 ^ 63 - 1 := HP.out.2
            rcases hts.inv.openIt (p := p) (by omega) with ⟨p', ho, hinv', hpp⟩ | ⟨hp0, hdn, ho⟩
            · have HO := Lib.hid ho; have HI := Lib.hid hinv'
              have hp'63 : p' ≤ 2 ^ 63 - 1 := by omega
              have HP63 := Lib.hid hp'63; have HPP := Lib.hid hp63
              clear ho hinv' hpp hp63 hp'63 hp1 hts hzcr hbx
              go_wp2_with fail
              refine (open_at HO.out wc.heap.size _ wc hby (Nat.le_refl _) HPP.out).mono ?_
              rintro e w4 ⟨ma, mc, qa, qc, rfl, hmo, hto, hb4⟩
              obtain ⟨D, hD⟩ : ∃ D, recs 0 kept = D := ⟨_, rfl⟩
              rw [hD] at hmo HI ⊢
              simp only at hmo ⊢
              have HD := Lib.hid hD
              clear hD
              have hts4 := hts1.below hb4
              have hk5 : Below w4.heap.size w4 (w4.alloc (.cells #[.slice ma D.length mc, .int .i64 p', .int .i64 (kept.length : Nat), .bool false] 29)) := (Below.refl _ w4).alloc (Nat.le_refl _) _
              have hts5 := hts4.below hk5
              have htx5 := hto.txts.below hk5 hk5.size
              have hq5 := Blk.new w4 #[.slice ma D.length mc, .int .i64 p', .int .i64 (kept.length : Nat), .bool false] 29
              have hmo5 := hmo.alloc (.cells #[.slice ma D.length mc, .int .i64 p', .int .i64 (kept.length : Nat), .bool false] 29)
              have hkx5 := hts5.kp.txts (by have := hts5.bel.size; exact this)
              obtain ⟨ka, kc, rfl, hkl1, hkl2⟩ := hts5.kp.form
              have hbl4 : wc.heap.size ≤ w4.heap.size := hb4.size
              have hb5c : b5 + 1 ≤ wc.heap.size := hts1.lt
              clear hts4 hb4 hts1 e0 e1 g0 g1 hto hmo hby ab
              go_wp2_with fail
              refine (sameTexts_any _ _ _ kept kept _ htx5 hkx5).mono ?_
              rintro e w6 ⟨rfl, n6, rfl⟩
              simp only [decide_true]
              have hts6 := hts5.below (below_drewN' n6)
              have hq6 : Blk ((w4.alloc (.cells #[.slice ma D.length mc, .int .i64 p', .int .i64 (kept.length : Nat), .bool false] 29)).drewN n6) w4.heap.size #[.slice ma D.length mc, .int .i64 p', .int .i64 (kept.length : Nat), .bool false] 29 := hq5
              have hmo6 : OwnB wc.heap.size ((w4.alloc (.cells #[.slice ma D.length mc, .int .i64 p', .int .i64 (kept.length : Nat), .bool false] 29)).drewN n6) (.slice ma D.length mc) D := hmo5
              obtain ⟨W6, hW6⟩ : ∃ X, ((w4.alloc (.cells #[.slice ma D.length mc, .int .i64 p', .int .i64 (kept.length : Nat), .bool false] 29)).drewN n6) = X := ⟨_, rfl⟩
              obtain ⟨mb, hmb⟩ : ∃ X, w4.heap.size = X := ⟨_, rfl⟩
              rw [hW6] at hts6 hq6 hmo6 ⊢
              rw [hmb] at hq6 hbl4 ⊢
              clear hW6 hmb hts5 hq5 hmo5 htx5 hkx5 hk5
              obtain ⟨c0, c1, c2, c3, f0, f1, f2, f3⟩ := hq6.four
              go_wp2_with fail
              refine (right_any W6.heap.size _ ⟨⟨D, p'⟩, (kept.length : Nat), false⟩ W6 hmo6.byts (Nat.le_refl _)).mono ?_
              rintro e w7 ⟨rfl, hb7⟩
              rw [HI.out.right]
              have hts7 := hts6.below hb7
              have hq7 := hq6.below hb7 hq6.lt
              have hmo7 := hmo6.below hb7 (Nat.le_refl _)
              clear c0 c1 c2 c3 f0 f1 f2 f3 hts6 hq6 hmo6 hb7
              obtain ⟨c0, c1, c2, c3, f0, f1, f2, f3⟩ := hq7.four
              obtain ⟨d0, d1, d2, d3, g0, g1, g2, g3⟩ := hts7.box.four
              have hputs := hts7.put (L' := ⟨⟨D, p'⟩, (kept.length : Nat), false⟩) hts7.kp (hmo7.mono hb5c) HI.out HP63.out
              go_wp2_with fail
              clear hts7 hq7 hmo7 c0 c1 c2 c3 f0 f1 f2 f3 d0 d1 d2 d3 g0 g1 g2 g3
              go_loopw [6, 7, 14, 15, 16, 17] (fun s6 s7 s14 s15 s16 s17 wx => ∃ (k : Nat) (L2 : Lg) (a2 : Option Addr) (c2 : Nat) (kept2 : List (List UInt8)), k ≤ ps.length ∧ s14 = .int .i64 k ∧ s7 = .int .i64 (kept2.length : Nat) ∧
                  kept2.length ≤ 20 * i + k ∧ TS w wx b5 L2 a2 c2 s6 kept2) (fun s6 s7 s14 s15 s16 s17 _ => ps.length - (intOf s14).toNat)
              case atStart => exact ⟨0, _, ma, mc, kept, Nat.zero_le _, rfl, rfl, by omega, hputs⟩
              case round =>
                obtain ⟨k, L2, a2, c2, kept2, hk, rfl, rfl, hkl2', hts2⟩ := hrel
                clear hputs
                obtain ⟨d0, d1, d2, d3, g0, g1, g2, g3⟩ := hts2.box.four
                by_cases hkp : k < ps.length
                · cases hdn : L2.down with
                  | true =>
                    rw [hdn] at d3
                    go_wp2_with fail
                    go_roundw
                    case rel => exact ⟨i + 1, L2, a2, c2, kept2, by omega, by go_num, rfl, by omega, hts2⟩
                    case measure => simp [intOf]; omega
                  | false =>
                    rw [hdn] at d3
                    obtain ⟨J, hJ⟩ : ∃ J, kept2.length % ps.length = J := ⟨_, rfl⟩
                    have hJp : J < ps.length := by rw [← hJ]; exact Nat.mod_lt _ (by omega)
                    have hJt : (kept2.length : Int).tmod (ps.length : Int) = (J : Int) := by rw [← hJ]; exact (Int.ofNat_tmod _ _).symm
                    have hJm : (kept2.length : Int) % (ps.length : Int) = (J : Int) := by rw [← hJ]; exact (Int.natCast_emod _ _).symm
                    obtain ⟨qb, qo, x, hqa, hqbK, hqc0, hqx⟩ := HPC.out J hJp
                    subst hqa
                    obtain ⟨q, hq⟩ : ∃ q, ps[J]?.getD [] = q := ⟨_, rfl⟩
                    have hq300 : q.length ≤ 300 := by rw [← hq]; exact H3.out J hJp
                    rw [hq] at hqx
                    have hqcr : wr.cell? ⟨qb, qo + J, none⟩ = some x := (hts2.bel.cell (p := ⟨qb, qo + J, none⟩) hqbK).trans hqc0
                    have hqx2 := hqx.below hts2.bel (Nat.le_refl _)
                    obtain ⟨xa, xc, rfl, hx1, hx2, _⟩ := id hqx2
                    have hpl0 : ((ps.length : Int) == 0) = false := by rw [beq_eq_false_iff_ne]; omega
                    have hne0 : ¬ ps.length = 0 := by omega
                    clear hqc0 hqx hq hJ
                    have h400 : kept2.length < 400 := by omega
                    go_wp2_with fail
                    rcases hts2.inv.addIt hdn h400 hq300 with ⟨p2, ha, hi2, hpp2⟩ | ⟨d2', ha, hi2⟩
                    · obtain ⟨N2, hN2⟩ : ∃ N, (kept2 ++ [q]).length = N := ⟨_, rfl⟩
                      rw [hN2] at ha hi2
                      have hN2' : kept2.length + 1 = N2 := by rw [← hN2]; simp
                      have HN2 := Lib.hid hN2'
                      have HA := Lib.hid ha; have HI2 := Lib.hid hi2
                      have hp2 : p2 ≤ 2 ^ 63 - 1 := by have := hts2.pow; omega
                      have HP2 := Lib.hid hp2
                      clear ha hi2 hpp2 hp2 hN2 hN2'
                      refine (add_at' HA.out hdn wr.heap.size _ _ wr hts2.own.byts (hqx2.below (Below.refl _ _) hts2.bel.size) (Nat.le_refl _) hts2.pow).mono ?_
                      rintro e w4 ⟨na, nc, rfl, hno, hb4⟩
                      obtain ⟨D2, hD2⟩ : ∃ D, recs 0 (kept2 ++ [q]) = D := ⟨_, rfl⟩
                      simp only at hno ⊢
                      rw [hD2] at hno HI2 ⊢
                      have HD2 := Lib.hid hD2
                      clear hD2
                      have hts4 := hts2.below hb4
                      have hk5 : Below w4.heap.size w4 (w4.alloc (.cells #[.slice na D2.length nc, .int .i64 p2, .int .i64 (N2 : Nat), .bool false] 29)) := (Below.refl _ w4).alloc (Nat.le_refl _) _
                      have hts5 := hts4.below hk5
                      have hq5 := Blk.new w4 #[.slice na D2.length nc, .int .i64 p2, .int .i64 (N2 : Nat), .bool false] 29
                      have hno5 := hno.alloc (.cells #[.slice na D2.length nc, .int .i64 p2, .int .i64 (N2 : Nat), .bool false] 29)
                      have hbl4 : wr.heap.size ≤ w4.heap.size := hb4.size
                      have hb5r : b5 + 1 ≤ wr.heap.size := hts2.lt
                      have hxb5 := (hqx2.below (hb4.mono hts2.bel.size) (Nat.le_refl _)).below (hk5.mono (by have := hts2.bel.size; omega)) (Nat.le_refl _)
                      clear hts4 hb4 d0 d1 d2 d3 g0 g1 g2 g3 hqcr hqx2 hJt hJm hpl0 hne0 hk5 hno
                      go_upto_region 27 with fail
                      obtain ⟨W5, hW5⟩ : ∃ X, (w4.alloc (.cells #[.slice na D2.length nc, .int .i64 p2, .int .i64 (N2 : Nat), .bool false] 29)) = X := ⟨_, rfl⟩
                      obtain ⟨nb, hnb⟩ : ∃ X, w4.heap.size = X := ⟨_, rfl⟩
                      rw [hW5] at hts5 hq5 hno5 hxb5 ⊢
                      rw [hnb] at hq5 hbl4 ⊢
                      clear hW5 hnb
                      obtain ⟨c0, c1, c2', c3, f0, f1, f2, f3⟩ := hq5.four
                      go_wp2_with fail
                      refine (right_any W5.heap.size _ ⟨⟨D2, p2⟩, (N2 : Nat), false⟩ W5 hno5.byts (Nat.le_refl _)).mono ?_
                      rintro e w7 ⟨rfl, hb7⟩
                      rw [HI2.out.right]
                      have hts7 := hts5.below hb7
                      have hq7 := hq5.below hb7 hq5.lt
                      have hno7 := hno5.below hb7 (Nat.le_refl _)
                      have hxb7 := hxb5.below (hb7.mono hts5.bel.size) (Nat.le_refl _)
                      clear c0 c1 c2' c3 f0 f1 f2 f3 hts5 hq5 hno5 hxb5 hb7
                      obtain ⟨ka2, kc2, rfl, hkf1, hkf2⟩ := hts7.kp.form
                      have hbsz := hts7.lt
                      have hbase7 := hts7.base
                      have hsz7 : kept2.length + 1 ≤ 2 ^ 40 := by omega
                      have hkp8 : Kp w.heap.size (b5 + 1) (w7.alloc (.cells #[.slice xa q.length xc] 25)) (.slice ka2 kept2.length kc2) kept2 := hts7.kp.below ((Below.refl _ w7).alloc (Nat.le_refl _) _) (Nat.le_refl _) (by omega)
                      have hxb8 : Byts w.heap.size (w7.alloc (.cells #[.slice xa q.length xc] 25)) (.slice xa q.length xc) q := hxb7.below ((Below.refl _ w7).alloc (by omega) _) (Nat.le_refl _)
                      have hq8 := hq7.alloc (.cells #[.slice xa q.length xc] 25)
                      have hno8 := hno7.alloc (.cells #[.slice xa q.length xc] 25)
                      have hbx8 := hts7.box.alloc (.cells #[.slice xa q.length xc] 25)
                      have hbl8 : Below w.heap.size w (w7.alloc (.cells #[.slice xa q.length xc] 25)) := hts7.bel.alloc (by omega) _
                      have hbs8 : b5 + 1 ≤ (w7.alloc (.cells #[.slice xa q.length xc] 25)).heap.size := by simp; omega
                      have hwb : w.heap.size ≤ b5 + 1 := by omega
                      have hce : (w7.alloc (.cells #[.slice xa q.length xc] 25)).cell? ⟨w7.heap.size, 0, none⟩ = some (.slice xa q.length xc) := (Blk.new w7 _ _).at rfl
                      obtain ⟨c0, c1, c2', c3, f0, f1, f2, f3⟩ := hq7.four
                      have hkl2 := hkl2'
                      have hm2 : kc2 ≤ 2 ^ 63 - 1 := by unfold maxLen at hkf2; omega
                      clear hkf2 hkl2' hts7 hq7 hno7 hxb7
                      go_wp2_with (at_builtin; refine wpList_append_L rfl (.tmp 148) (.tmp 150) rfl rfl rfl hkp8 hce hxb8 hsz7 hbs8 hwb ?_; intro g9 c9 w9 hkp9 hg9 hat9; have hg9 : World.grownBy _ w9 (Value.slice ka2 kept2.length kc2).ownBlock := hg9; have hq9 := hq8.kept hg9 (hkp8.ne_blk hq8 (by decide)); have hno9 := hno8.kept hg9 (hkp8.ne_own hno8); have hbx9 := hbx8.kept hg9 (hkp8.ne_blk hbx8 (by decide)); have hbl9 : Below w.heap.size w w9 := hbl8.trans (below_of_grown hg9 (fun rr hrr => by have := hkp8.base_le hrr; omega) (by omega)); clear c0 c1 c2' c3 f0 f1 f2 f3; obtain ⟨c0, c1, c2', c3, f0, f1, f2, f3⟩ := hq9.four; obtain ⟨d0, d1, d2, d3, g0, g1, g2, g3⟩ := hbx9.four)
                      have hput := TS.put2 (L' := ⟨⟨D2, p2⟩, (N2 : Nat), false⟩) hbx9 hkp9 (hno9.mono hb5r) hbl9 hbase7 HI2.out HP2.out
                      go_roundw
                      case rel => exact ⟨k + 1, _, na, nc, kept2 ++ [q], by omega, by go_num, by simp, by simp; omega, hput⟩
                      case measure => simp [intOf]; omega
                    · have HA := Lib.hid ha; have HI2 := Lib.hid hi2
                      clear ha hi2
                      refine (add_at' HA.out hdn wr.heap.size _ _ wr hts2.own.byts (hqx2.below (Below.refl _ _) hts2.bel.size) (Nat.le_refl _) hts2.pow).mono ?_
                      rintro e w4 ⟨na, nc, rfl, hno, hb4⟩
                      obtain ⟨D2, hD2⟩ : ∃ D, d2' = D := ⟨_, rfl⟩
                      simp only at hno ⊢
                      rw [hD2] at hno HI2 ⊢
                      have HD2 := Lib.hid hD2
                      clear hD2
                      have hts4 := hts2.below hb4
                      have hk5 : Below w4.heap.size w4 (w4.alloc (.cells #[.slice na D2.length nc, .int .i64 0, .int .i64 (kept2.length : Nat), .bool true] 29)) := (Below.refl _ w4).alloc (Nat.le_refl _) _
                      have hts5 := hts4.below hk5
                      have hq5 := Blk.new w4 #[.slice na D2.length nc, .int .i64 0, .int .i64 (kept2.length : Nat), .bool true] 29
                      have hno5 := hno.alloc (.cells #[.slice na D2.length nc, .int .i64 0, .int .i64 (kept2.length : Nat), .bool true] 29)
                      have hbl4 : wr.heap.size ≤ w4.heap.size := hb4.size
                      have hb5r : b5 + 1 ≤ wr.heap.size := hts2.lt
                      have hxb5 := (hqx2.below (hb4.mono hts2.bel.size) (Nat.le_refl _)).below (hk5.mono (by have := hts2.bel.size; omega)) (Nat.le_refl _)
                      clear hts4 hb4 d0 d1 d2 d3 g0 g1 g2 g3 hqcr hqx2 hJt hJm hpl0 hne0 hk5 hno
                      go_upto_region 27 with fail
                      obtain ⟨W5, hW5⟩ : ∃ X, (w4.alloc (.cells #[.slice na D2.length nc, .int .i64 0, .int .i64 (kept2.length : Nat), .bool true] 29)) = X := ⟨_, rfl⟩
                      obtain ⟨nb, hnb⟩ : ∃ X, w4.heap.size = X := ⟨_, rfl⟩
                      rw [hW5] at hts5 hq5 hno5 hxb5 ⊢
                      rw [hnb] at hq5 hbl4 ⊢
                      clear hW5 hnb
                      obtain ⟨c0, c1, c2', c3, f0, f1, f2, f3⟩ := hq5.four
                      go_wp2_with fail
                      refine (right_any W5.heap.size _ ⟨⟨D2, 0⟩, (kept2.length : Nat), true⟩ W5 hno5.byts (Nat.le_refl _)).mono ?_
                      rintro e w7 ⟨rfl, hb7⟩
                      rw [HI2.out.right]
                      have hts7 := hts5.below hb7
                      have hq7 := hq5.below hb7 hq5.lt
                      have hno7 := hno5.below hb7 (Nat.le_refl _)
                      clear c0 c1 c2' c3 f0 f1 f2 f3 hts5 hq5 hno5 hxb5 hb7
                      obtain ⟨c0, c1, c2', c3, f0, f1, f2, f3⟩ := hq7.four
                      obtain ⟨d0, d1, d2, d3, g0, g1, g2, g3⟩ := hts7.box.four
                      have hput := TS.put2 (L' := ⟨⟨D2, 0⟩, (kept2.length : Nat), true⟩) hts7.box hts7.kp (hno7.mono hb5r) hts7.bel hts7.base HI2.out (show (0 : Int) ≤ 2 ^ 63 - 1 by decide)
                      have hkl2 := hkl2'
                      clear hkl2' hts7 hq7 hno7
                      go_wp2_with fail
                      go_roundw
                      case rel => exact ⟨k + 1, _, na, nc, kept2, by omega, by go_num, rfl, by omega, hput⟩
                      case measure => simp [intOf]; omega
                · go_wp2_with fail
                  go_roundw
                  case rel => exact ⟨i + 1, L2, a2, c2, kept2, by omega, by go_num, rfl, by omega, hts2⟩
                  case measure => simp [intOf]; omega
            · have HO := Lib.hid ho
              subst hp0
              have hts2 := hts1
              clear ho hts hzcr hbx hp63 hp1
              go_wp2_with fail
              refine (open_at HO.out wc.heap.size _ wc hby (Nat.le_refl _) (show (0 : Int) ≤ 2 ^ 63 - 1 by decide)).mono ?_
              rintro e w4 ⟨ma, mc, qa, qc, rfl, hmo, hto, hb4⟩
              have hts4 := hts2.below hb4
              have hzc4 : w4.cell? ⟨zb, zo + i, none⟩ = some (.int .i64 0) := (hb4.cell (p := ⟨zb, zo + i, none⟩) (show zb < wc.heap.size by have := hts2.lt; have := hts2.base; omega)).trans hzc1
              have hk5 : Below w4.heap.size w4 (w4.alloc (.cells #[.slice ma 0 mc, .int .i64 0, .int .i64 0, .bool false] 29)) := (Below.refl _ w4).alloc (Nat.le_refl _) _
              have hts5 := hts4.below hk5
              have hbl4 : wc.heap.size ≤ w4.heap.size := hb4.size
              have hzb4 : zb < w4.heap.size := by have := hts2.lt; have := hts2.base; omega
              have hb54 : b5 < w4.heap.size := hts4.lt
              obtain ⟨d0, d1, d2, d3, g0', g1', g2, g3⟩ := hts4.box.four
              rw [hdn] at d3
              clear hts4 hb4 hts1 hts2 e0 e1 g0 g1 hto hmo hby ab hk5 hzc1
              go_wp2_with fail
              go_roundw
              case rel => exact ⟨i + 1, L, a5, c5, kept, by omega, by go_num, rfl, by omega, hts5⟩
              case measure => simp [intOf]; omega
      · obtain rfl : i = zs.length := by omega
        obtain ⟨d0, d1, d2, d3, g0, g1, g2, g3⟩ := hts.box.four
        have hb50 := hts.lt
        go_wp2_with fail
        refine (restore_at (hts.inv.restore (p := -1) (by omega)) wr.heap.size _ wr hts.own.byts (Nat.le_refl _)).mono ?_
        rintro e w3 ⟨ra, rc, rfl, hro, hrb⟩
        simp only at hro ⊢
        have hts3 := hts.below hrb
        have hk4 : Below w3.heap.size w3 (w3.alloc (.cells #[.slice ra L.st.data.length rc, .int .i64 (-1)] 27)) := (Below.refl _ w3).alloc (Nat.le_refl _) _
        have hts4 := hts3.below hk4
        have hro4 := hro.alloc (.cells #[.slice ra L.st.data.length rc, .int .i64 (-1)] 27)
        rcases hts.inv.openIt (p := -1) (by omega) with ⟨p', ho, hinv', hpp⟩ | ⟨hp0, _⟩
        · have HO := Lib.hid ho
          clear ho hinv' hpp d0 d1 d2 d3 g0 g1 g2 g3 hts hro hk4 hts3 hrb
          go_wp2_with fail
          refine (open_at HO.out _ _ _ hro4.byts (Nat.le_refl _) (show (-1 : Int) ≤ 2 ^ 63 - 1 by decide)).mono ?_
          rintro e w5 ⟨ma, mc, qa, qc, rfl, hmo, hto, hb5⟩
          obtain ⟨D, hD⟩ : ∃ D, recs 0 kept = D := ⟨_, rfl⟩
          rw [hD] at hmo ⊢
          simp only at hmo ⊢
          have HD := Lib.hid hD
          clear hD
          have hts5 := hts4.below hb5
          have hk6 : Below w5.heap.size w5 (w5.alloc (.cells #[.slice ma D.length mc, .int .i64 p', .int .i64 (kept.length : Nat), .bool false] 29)) := (Below.refl _ w5).alloc (Nat.le_refl _) _
          have hts6 := hts5.below hk6
          have htx6 := hto.txts.below hk6 hk6.size
          have hkx6 := hts6.kp.txts (by have := hts6.bel.size; exact this)
          have hbel6 := hts6.bel
          obtain ⟨ka, kc, rfl, hkl1, hkl2⟩ := hts6.kp.form
          clear hts4 hb5 hts5 hto hmo hk6 hts6 hro4
          go_wp2_with fail
          refine (sameTexts_any _ _ _ kept kept _ htx6 hkx6).mono ?_
          rintro e w6 ⟨rfl, n6, rfl⟩
          simp only [decide_true]
          go_wp2_with fail
          go_ret
          exact ⟨rfl, hbel6.trans (below_drewN' n6)⟩
        · omega
end Go.Proofs.Ytkdlimigepkepaa
