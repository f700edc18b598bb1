/- JournalRuns: the walk. No conditions beyond the readings of the arguments. -/
import Derived.Test.YtkdlimigepkepaaQ8
import Derived.Test.YtkdlimigepkepaaJLawT
import Derived.Test.YtkdlimigepkepaaOpn
import Derived.Test.YtkdlimigepkepaaLPrefix
import Derived.Deep.CutRange
namespace Go.Proofs.Ytkdlimigepkepaa
open Go.RowKit
set_option linter.unusedVariables false

/-- What the law keeps: the log and the reference's, in their boxes. -/
structure RS (w wr : World) (b5 b6 : Nat) (L5 : Lg) (a5 : Option Addr) (c5 : Nat) (L6 : Lg) (a6 : Option Addr) (c6 : Nat) : Prop where
  box5 : Blk wr b5 #[.slice a5 L5.st.data.length c5, .int .i64 L5.st.power, .int .i64 L5.count, .bool L5.down] 29
  box6 : Blk wr b6 #[.slice a6 L6.st.data.length c6, .int .i64 L6.st.power, .int .i64 L6.count, .bool L6.down] 32
  own5 : OwnB (b6 + 1) wr (.slice a5 L5.st.data.length c5) L5.st.data
  own6 : OwnB (b6 + 1) wr (.slice a6 L6.st.data.length c6) L6.st.data
  bel : Below w.heap.size w wr
  base : w.heap.size ≤ b5
  lt : b5 < b6

section
variable {w wr : World} {b5 b6 : Nat} {L5 : Lg} {a5 : Option Addr} {c5 : Nat} {L6 : Lg} {a6 : Option Addr} {c6 : Nat}
theorem RS.lt6 (h : RS w wr b5 b6 L5 a5 c5 L6 a6 c6) : b6 < wr.heap.size := h.box6.lt
theorem RS.lt5 (h : RS w wr b5 b6 L5 a5 c5 L6 a6 c6) : b5 < wr.heap.size := h.box5.lt
theorem RS.below {wx : World} (h : RS w wr b5 b6 L5 a5 c5 L6 a6 c6) (hb : Below wr.heap.size wr wx) : RS w wx b5 b6 L5 a5 c5 L6 a6 c6 :=
  ⟨h.box5.below hb h.lt5, h.box6.below hb h.lt6, h.own5.below hb (Nat.le_refl _), h.own6.below hb (Nat.le_refl _), h.bel.trans (hb.mono h.bel.size), h.base, h.lt⟩
theorem RS.put5 {L' : Lg} {a' : Option Addr} {c' : Nat} (h : RS w wr b5 b6 L5 a5 c5 L6 a6 c6) (ho : OwnB (b6 + 1) wr (.slice a' L'.st.data.length c') L'.st.data) :
    RS w ((((wr.setCell ⟨b5, 0, none⟩ (.slice a' L'.st.data.length c')).setCell ⟨b5, 1, none⟩ (.int .i64 L'.st.power)).setCell ⟨b5, 2, none⟩ (.int .i64 L'.count)).setCell ⟨b5, 3, none⟩ (.bool L'.down)) b5 b6 L' a' c' L6 a6 c6 := by
  obtain ⟨w', hw', hq, hb, ha, hs⟩ := put4 h.box5 (.slice a' L'.st.data.length c') (.int .i64 L'.st.power) (.int .i64 L'.count) (.bool L'.down)
  have hlt := h.lt
  have hne : b6 ≠ b5 := by omega
  have hq6 : Blk w' b6 _ 32 := hw' ▸ (((h.box6.other (i := 0) hne _).other (i := 1) hne _).other (i := 2) hne _).other (i := 3) hne _
  rw [hw']
  have h1 := h.base
  exact ⟨hq, hq6, ho.above ha (by omega), h.own6.above ha (by omega), h.bel.trans (hb.mono h1), h1, hlt⟩
theorem RS.put6 {L' : Lg} {a' : Option Addr} {c' : Nat} (h : RS w wr b5 b6 L5 a5 c5 L6 a6 c6) (ho : OwnB (b6 + 1) wr (.slice a' L'.st.data.length c') L'.st.data) :
    RS w ((((wr.setCell ⟨b6, 0, none⟩ (.slice a' L'.st.data.length c')).setCell ⟨b6, 1, none⟩ (.int .i64 L'.st.power)).setCell ⟨b6, 2, none⟩ (.int .i64 L'.count)).setCell ⟨b6, 3, none⟩ (.bool L'.down)) b5 b6 L5 a5 c5 L' a' c' := by
  obtain ⟨w', hw', hq, hb, ha, hs⟩ := put4 h.box6 (.slice a' L'.st.data.length c') (.int .i64 L'.st.power) (.int .i64 L'.count) (.bool L'.down)
  have hlt := h.lt
  rw [hw']
  have h1 := h.base
  exact ⟨h.box5.below hb hlt, hq, h.own5.above ha (Nat.le_refl _), ho.above ha (Nat.le_refl _), h.bel.trans (hb.mono (by omega)), h1, hlt⟩
end

/-- A box and a cell that are read. -/
def SC (b : Nat) (cs : Array Value) (t : TypeId) (ad : Addr) (x : Value) (W : World) : Prop := Blk W b cs t ∧ W.cell? ad = some x
theorem SC.below {b : Nat} {cs : Array Value} {t : TypeId} {ad : Addr} {x : Value} {B : Nat} {W W' : World} (h : SC b cs t ad x W) (hb : Below B W W') (h1 : b < B) (h2 : ad.block < B) : SC b cs t ad x W' :=
  ⟨h.1.below hb h1, (hb.cell (p := ad) h2).trans h.2⟩
/-- Two boxes that are read. -/
def S2 (b : Nat) (cs : Array Value) (t : TypeId) (b' : Nat) (cs' : Array Value) (t' : TypeId) (W : World) : Prop := Blk W b cs t ∧ Blk W b' cs' t'
theorem S2.below {b : Nat} {cs : Array Value} {t : TypeId} {b' : Nat} {cs' : Array Value} {t' : TypeId} {B : Nat} {W W' : World} (h : S2 b cs t b' cs' t' W) (hb : Below B W W') (h1 : b < B) (h2 : b' < B) : S2 b cs t b' cs' t' W' :=
  ⟨h.1.below hb h1, h.2.below hb h2⟩

theorem open_cases {L L1 : Lg} {kept qs : List (List UInt8)} {p code oc : Int} {rs : St} (h : Inv L kept) (hp : p ≤ 2 ^ 63 - 1) (hr : restoreS L p = (rs, code)) (ho : openS rs = (L1, qs, oc)) :
    (oc = 0 ∧ code = 0 ∧ Inv L1 kept ∧ Hid (L1.st.power ≤ 2 ^ 63 - 1)) ∨ (oc = 0 ∧ code ≠ 0) ∨ oc ≠ 0 := by
  by_cases h0 : oc = 0
  · by_cases h1 : p < -1
    · have h2 := h.restore_bad h1
      rw [hr] at h2
      simp only [Prod.mk.injEq] at h2
      exact .inr (.inl ⟨h0, by rw [h2.2]; decide⟩)
    · have h2 := h.restore (p := p) (by omega)
      rw [hr] at h2
      simp only [Prod.mk.injEq] at h2
      obtain ⟨rfl, rfl⟩ := h2
      rcases h.openIt (p := p) (by omega) with ⟨p', h3, h4, h5⟩ | ⟨_, _, h3⟩
      · rw [ho] at h3
        simp only [Prod.mk.injEq] at h3
        rw [h3.1]
        exact .inl ⟨h0, rfl, h4, by unfold Hid; simp only; omega⟩
      · rw [ho] at h3
        simp only [Prod.mk.injEq] at h3
        exact .inr (.inr (by rw [h3.2.2]; decide))
  · exact .inr (.inr h0)
theorem add_cases {L : Lg} {kept : List (List UInt8)} {q : List UInt8} (h : Inv L kept) (hdn : L.down = false) (hk : kept.length < 400) (hq : q.length ≤ 300) (hp : Hid (L.st.power ≤ 2 ^ 63 - 1)) :
    ∃ L3 ac kept3, addS L q = (L3, ac) ∧ Inv L3 kept3 ∧ kept3.length ≤ kept.length + 1 ∧ Hid (L3.st.power ≤ 2 ^ 63 - 1) := by
  have hp' := hp.out
  rcases h.addIt hdn hk hq with ⟨p2, ha, hi2, hpp2⟩ | ⟨d2', ha, hi2⟩
  · exact ⟨_, _, _, ha, hi2, by simp, by unfold Hid; simp only; omega⟩
  · exact ⟨_, _, _, ha, hi2, by omega, by unfold Hid; simp only; decide⟩
theorem Blk.above {B b t : Nat} {W W' : World} {cs : Array Value} (h : Blk W b cs t) (ha : Above B W W') (hb : B ≤ b) : Blk W' b cs t := (ha.2 b hb h.lt).trans h

theorem restoreS_pow {l : Lg} {p c : Int} {rs : St} (h : restoreS l p = (rs, c)) (hp : p ≤ 2 ^ 63 - 1) : rs.power ≤ 2 ^ 63 - 1 := by
  unfold restoreS at h
  split at h
  · simp only [Prod.mk.injEq] at h; rw [← h.1]; decide
  · simp only [Prod.mk.injEq] at h; rw [← h.1]; exact hp
theorem restoreS_len {l : Lg} {p c : Int} {rs : St} (h : restoreS l p = (rs, c)) (hp : l.st.data.length ≤ 2 ^ 21) : rs.data.length ≤ 2 ^ 21 := by
  unfold restoreS at h
  split at h
  · simp only [Prod.mk.injEq] at h; rw [← h.1]; decide
  · simp only [Prod.mk.injEq] at h; rw [← h.1]; exact hp

theorem OwnB.notNew' {base : Nat} {W : World} {v : Value} {l : List UInt8} (h : OwnB base W v l) : v.ownBlock ≠ some W.heap.size := fun e => by
  have := h.lt e; omega
theorem OwnB.keptO2 {base : Nat} {W W' : World} {v : Value} {l : List UInt8} (h : OwnB base W v l) {r : Nat} (hne : v.ownBlock ≠ some r) {x y : Value}
    (hW : (W.setCell ⟨r, 0, none⟩ x).setCell ⟨r, 1, none⟩ y = W') : OwnB base W' v l := by
  subst hW
  exact (h.kept (grownBy_setCell W r 0 x) (.inr hne)).kept (grownBy_setCell _ r 1 y) (.inr hne)
theorem OwnB.keptO4 {base : Nat} {W W' : World} {v : Value} {l : List UInt8} (h : OwnB base W v l) {r : Nat} (hne : v.ownBlock ≠ some r) {x y z u : Value}
    (hW : (((W.setCell ⟨r, 0, none⟩ x).setCell ⟨r, 1, none⟩ y).setCell ⟨r, 2, none⟩ z).setCell ⟨r, 3, none⟩ u = W') : OwnB base W' v l := by
  subst hW
  exact (((h.kept (grownBy_setCell W r 0 x) (.inr hne)).kept (grownBy_setCell _ r 1 y) (.inr hne)).kept (grownBy_setCell _ r 2 z) (.inr hne)).kept (grownBy_setCell _ r 3 u) (.inr hne)
theorem add_at' {l L : Lg} {pl : List UInt8} {c : Int} {dn : Bool} (hr : addS l pl = (L, c)) (hd : l.down = dn) (K : Nat) (v vp : Value) (w : World) (hv : Byts K w v l.st.data) (hvp : Byts K w vp pl) (hK : K ≤ w.heap.size) (hp : l.st.power ≤ 2 ^ 63 - 1) :
    Calls Try.prog 19 #[.agg #[v, .int .i64 l.st.power, .int .i64 l.count, .bool dn], vp] w fun e w' => ∃ a cap,
      e = .returned (.tuple #[.agg #[.slice a L.st.data.length cap, .int .i64 L.st.power, .int .i64 L.count, .bool L.down], .int .i64 c]) ∧ OwnB w.heap.size w' (.slice a L.st.data.length cap) L.st.data ∧ Below w.heap.size w w' := by
  subst hd
  exact add_at hr K v vp w hv hvp hK hp
theorem add_ref_at' {l L : Lg} {pl : List UInt8} {c : Int} {dn : Bool} (hr : addS l pl = (L, c)) (hd : l.down = dn) (K : Nat) (v vp : Value) (w : World) (hv : Byts K w v l.st.data) (hvp : Byts K w vp pl) (hK : K ≤ w.heap.size) (hp : l.st.power ≤ 2 ^ 63 - 1) (hl21 : l.st.data.length ≤ 2 ^ 21) :
    Calls Try.prog 20 #[.agg #[v, .int .i64 l.st.power, .int .i64 l.count, .bool dn], vp] w fun e w' => ∃ a cap,
      e = .returned (.tuple #[.agg #[.slice a L.st.data.length cap, .int .i64 L.st.power, .int .i64 L.count, .bool L.down], .int .i64 c]) ∧ OwnB w.heap.size w' (.slice a L.st.data.length cap) L.st.data ∧ Below w.heap.size w w' := by
  subst hd
  exact add_ref_at hr K v vp w hv hvp hK hp hl21

set_option maxRecDepth 100000 in
set_option maxHeartbeats 16000000 in
theorem runs_walk (vp v : Value) (zs : List Int) (ps : List (List UInt8)) (w : World) (hz : Ints w vp zs) (hv : Txts w.heap.size w v ps) :
    Calls Try.prog 3 #[vp, v] w fun e w' => e = .returned (.bool true) ∧ Below w.heap.size w w' := by
  obtain ⟨za, zcap, rfl, hzl, hzm, hzr, hzc⟩ := hz
  obtain ⟨pa, pcap, rfl, hpl, hpm, hpc⟩ := id hv
  have HV := Lib.hid hv; have HPC := Lib.hid hpc; have HZC := Lib.hid hzc; have HZR := Lib.hid hzr
  have hpm' : pcap ≤ 2 ^ 63 - 1 := by unfold maxLen at hpm; omega
  have hzm' : zcap ≤ 2 ^ 63 - 1 := by unfold maxLen at hzm; omega
  clear hv hpc hpm hzc hzr hzm
  go_enter Try.func3, Try.ntmps3
  by_cases hz12 : 12 < zs.length
  · have t : decide ((12 : Int) < (zs.length : Int)) = true := by simp; omega
    clear hz12
    go_wp2_with fail
    refine (awake_any _).mono ?_
    rintro e w1 ⟨rfl, hq1⟩
    go_wp2_with fail
    go_ret
    exact ⟨rfl, hq1⟩
  have t12 : decide ((12 : Int) < (zs.length : Int)) = false := by simp; omega
  have hz12' : zs.length ≤ 12 := by omega
  clear hz12
  by_cases hp12 : 12 < ps.length
  · have t : decide ((12 : Int) < (ps.length : Int)) = true := by simp; omega
    clear hp12
    go_wp2_with fail
    refine (awake_any _).mono ?_
    rintro e w1 ⟨rfl, hq1⟩
    go_wp2_with fail
    go_ret
    exact ⟨rfl, hq1⟩
  have tp12 : decide ((12 : Int) < (ps.length : Int)) = false := by simp; omega
  have hp12' : ps.length ≤ 12 := by omega
  clear hp12
  go_wp2_with fail
  have hstart : RS w ((w.alloc (.cells #[.slice none 0 0, .int .i64 0, .int .i64 0, .bool false] 29)).alloc (.cells #[.slice none 0 0, .int .i64 0, .int .i64 0, .bool false] 32)) w.heap.size (w.heap.size + 1) zLg none 0 zLg none 0 :=
    ⟨(Blk.new w _ _).alloc _, by have := Blk.new (w.alloc (.cells #[.slice none 0 0, .int .i64 0, .int .i64 0, .bool false] 29)) #[.slice none 0 0, .int .i64 0, .int .i64 0, .bool false] 32; rw [World.size_alloc] at this; exact this,
      OwnB.nil _ _, OwnB.nil _ _, ((Below.refl _ w).alloc (Nat.le_refl _) _).alloc (by simp) _, Nat.le_refl _, Nat.lt_succ_self _⟩
  obtain ⟨b5, hb5⟩ : ∃ b, w.heap.size = b := ⟨_, rfl⟩
  obtain ⟨b6, hb6⟩ : ∃ b, w.heap.size + 1 = b := ⟨_, rfl⟩
  obtain ⟨W1, hW1⟩ : ∃ X, ((w.alloc (.cells #[.slice none 0 0, .int .i64 0, .int .i64 0, .bool false] 29)).alloc (.cells #[.slice none 0 0, .int .i64 0, .int .i64 0, .bool false] 32)) = X := ⟨_, rfl⟩
  rw [hW1] at hstart ⊢
  rw [hb6, hb5] at hstart
  rw [hb6, hb5]
  clear hb5 hb6 hW1
  go_loopw [7, 8, 9, 10, 11, 12, 13, 14, 15, 16, 17, 18, 19, 20, 21, 22] (fun s7 s8 s9 s10 s11 s12 s13 s14 s15 s16 s17 s18 s19 s20 s21 s22 wr => ∃ (i : Nat) (L : Lg) (a5 : Option Addr) (c5 : Nat) (a6 : Option Addr) (c6 : Nat) (kept : List (List UInt8)), i ≤ zs.length ∧ s7 = .int .i64 i ∧
      kept.length ≤ 12 * i ∧ RS w wr b5 b6 L a5 c5 L a6 c6 ∧ Inv L kept ∧ Hid (L.st.power ≤ 2 ^ 63 - 1)) (fun s7 s8 s9 s10 s11 s12 s13 s14 s15 s16 s17 s18 s19 s20 s21 s22 _ => zs.length - (intOf s7).toNat)
  case atStart => exact ⟨0, zLg, none, 0, none, 0, [], Nat.zero_le _, rfl, Nat.le_refl _, hstart, inv_zero, (by unfold Hid; decide)⟩
  case round =>
    obtain ⟨i, L, a5, c5, a6, c6, kept, hi, rfl, hkl, hts, hinv, hpw⟩ := hrel
    clear hstart
    by_cases hlt : i < zs.length
    · obtain ⟨zb, zo, hza, hzbK, hzc0⟩ := HZC.out i hlt
      subst hza
      obtain ⟨p, hp⟩ : ∃ p, zs[i]?.getD 0 = p := ⟨_, rfl⟩
      have hpr := HZR.out p (by rw [← hp]; simp [hlt])
      rw [hp] at hzc0
      have hzcr : wr.cell? ⟨zb, zo + i, none⟩ = some (.int .i64 p) := (hts.bel.cell (p := ⟨zb, zo + i, none⟩) hzbK).trans hzc0
      have HP := Lib.hid hpr
      clear hp hzc0 hpr
      have hd21 : L.st.data.length ≤ 2 ^ 21 := by have := hinv.dlen; omega
      obtain ⟨⟨rs, code⟩, hrs⟩ : ∃ x, restoreS L p = x := ⟨_, rfl⟩
      have hrs2 : Hid (rs.power ≤ 2 ^ 63 - 1) := restoreS_pow hrs HP.out.2
      have hrsd : Hid (rs.data.length ≤ 2 ^ 21) := restoreS_len hrs hd21
      have HI := Lib.hid hinv
      clear hinv
      go_upto_region 8 with fail
      go_cut [8, 9] from 38 to 46 (fun s8 s9 wx => ∃ r ra rc, s8 = .pointer (some ⟨r, 0, none⟩) ∧ s9 = .int .i64 code ∧ wr.heap.size ≤ r ∧ Blk wx r #[.slice ra rs.data.length rc, .int .i64 rs.power] 27 ∧ OwnB wr.heap.size wx (.slice ra rs.data.length rc) rs.data ∧ (Value.ownBlock (.slice ra rs.data.length rc) ≠ some r) ∧ Below wr.heap.size wr wx)
      case first =>
        refine region_plain (SC b5 #[.slice a5 L.st.data.length c5, .int .i64 L.st.power, .int .i64 L.count, .bool L.down] 29 ⟨zb, zo + i, none⟩ (.int .i64 p)) [] (by kernel_rfl) ?_
        have q0 : SC b5 #[.slice a5 L.st.data.length c5, .int .i64 L.st.power, .int .i64 L.count, .bool L.down] 29 ⟨zb, zo + i, none⟩ (.int .i64 p) wr.drew := ⟨hts.box5, hzcr⟩
        refine wpAnyD_take (i := 0) (v := .agg #[.slice a5 L.st.data.length c5, .int .i64 L.st.power, .int .i64 L.count, .bool L.down]) rfl (by kernel_rfl) (by kernel_rfl) (by kernel_rfl) (by kernel_rfl) (by kernel_rfl) (fun _ _ _ h => h) (.inl ⟨by kernel_rfl, fun W' hS => by obtain ⟨c0, c1, c2, c3, f0, f1, f2, f3⟩ := hS.1.four; go_simp⟩) q0 ?_
        refine wpAnyD_take (i := 1) (v := .slice (some ⟨zb, zo, none⟩) zs.length zcap) rfl (by kernel_rfl) (by kernel_rfl) (by kernel_rfl) (by kernel_rfl) (by kernel_rfl) (fun _ _ _ h => h) (.inl ⟨by kernel_rfl, fun W' hS => by go_simp⟩) q0 ?_
        refine wpAnyD_take (i := 2) (v := .int .i64 i) rfl (by kernel_rfl) (by kernel_rfl) (by kernel_rfl) (by kernel_rfl) (by kernel_rfl) (fun _ _ _ h => h) (.inl ⟨by kernel_rfl, fun W' hS => by go_simp⟩) q0 ?_
        refine wpAnyD_take (i := 3) (v := .pointer (some ⟨zb, zo + i, none⟩)) rfl (by kernel_rfl) (by kernel_rfl) (by kernel_rfl) (by kernel_rfl) (by kernel_rfl) (fun _ _ _ h => h) (.inl ⟨by kernel_rfl, fun W' hS => by go_simp⟩) q0 ?_
        refine wpAnyD_take (i := 4) (v := .int .i64 p) rfl (by kernel_rfl) (by kernel_rfl) (by kernel_rfl) (by kernel_rfl) (by kernel_rfl) (fun _ _ _ h => h) (.inl ⟨by kernel_rfl, fun W' hS => by have h2 := hS.2; go_simp⟩) q0 ?_
        obtain ⟨W0, hW0⟩ : ∃ X, wr.drew = X := ⟨_, rfl⟩
        have hk0 : Below wr.heap.size wr wr.drew := (Below.refl _ wr).drew
        have hsz0 : wr.heap.size ≤ wr.drew.heap.size := Nat.le_refl _
        rw [hW0] at q0 hk0 hsz0 ⊢
        clear hW0
        have hlb : b5 < wr.heap.size := hts.lt5
        have hlx : zb < wr.heap.size := by have := hts.bel.size; omega
        have own0 := hts.own5.below hk0 (Nat.le_refl _)
        refine wpAnyD_both (i := 5) (j := 9) (by kernel_rfl) rfl rfl (by kernel_rfl) (by kernel_rfl) ?_ ?_
        · go_simp
          refine (restore_at hrs W0.heap.size _ W0 own0.byts (Nat.le_refl _)).mono ?_
          rintro e W1 ⟨ra, rc, rfl, hro, hrb⟩
          have hs1 := hrb.size
          have q1 : SC b5 #[.slice a5 L.st.data.length c5, .int .i64 L.st.power, .int .i64 L.count, .bool L.down] 29 ⟨zb, zo + i, none⟩ (.int .i64 p) W1 := q0.below hrb (by omega) (by simp only; omega)
          refine ⟨q1, ?_⟩
          refine wpAnyD_take (i := 6) (v := .tuple #[.agg #[.slice ra rs.data.length rc, .int .i64 rs.power], .int .i64 code]) rfl (by kernel_rfl) (by kernel_rfl) (by kernel_rfl) (by kernel_rfl) (by kernel_rfl) (fun _ _ _ h => h) (.inl ⟨by kernel_rfl, fun W' hS => by go_simp⟩) q1 ?_
          refine wpAnyD_take (i := 7) (v := .agg #[.slice ra rs.data.length rc, .int .i64 rs.power]) rfl (by kernel_rfl) (by kernel_rfl) (by kernel_rfl) (by kernel_rfl) (by kernel_rfl) (fun _ _ _ h => h) (.inl ⟨by kernel_rfl, fun W' hS => by go_simp⟩) q1 ?_
          refine wpAnyD_take (i := 8) (v := .int .i64 code) rfl (by kernel_rfl) (by kernel_rfl) (by kernel_rfl) (by kernel_rfl) (by kernel_rfl) (fun _ _ _ h => h) (.inl ⟨by kernel_rfl, fun W' hS => by go_simp⟩) q1 ?_
          refine wpAnyD_one (i := 9) (by kernel_rfl) rfl (by kernel_rfl) ?_
          go_simp
          have q2 : SC b5 #[.slice a5 L.st.data.length c5, .int .i64 L.st.power, .int .i64 L.count, .bool L.down] 29 ⟨zb, zo + i, none⟩ (.int .i64 p) (W1.alloc (.cells #[.slice none 0 0, .int .i64 0] 27)) := q1.below ((Below.refl _ W1).alloc (Nat.le_refl _) _) (by omega) (by simp only; omega)
          refine ⟨q2, ?_⟩
          have ab := Blk.new W1 #[.slice none 0 0, .int .i64 0] 27
          have hne := hro.notNew'
          have hro2 : OwnB wr.heap.size (W1.alloc (.cells #[.slice none 0 0, .int .i64 0] 27)) _ rs.data := (hro.mono hsz0).alloc (.cells #[.slice none 0 0, .int .i64 0] 27)
          have hk2 : Below wr.heap.size wr (W1.alloc (.cells #[.slice none 0 0, .int .i64 0] 27)) := (hk0.trans (hrb.mono (by omega))).alloc (by omega) _
          have hrr : wr.heap.size ≤ W1.heap.size := by omega
          obtain ⟨W2, hW2⟩ : ∃ X, W1.alloc (.cells #[.slice none 0 0, .int .i64 0] 27) = X := ⟨_, rfl⟩
          obtain ⟨r, hr⟩ : ∃ X, W1.heap.size = X := ⟨_, rfl⟩
          rw [hW2] at q2 ab hro2 hk2 ⊢
          rw [hr] at ab hne hrr ⊢
          clear hr hW2
          obtain ⟨e0, e1, g0, g1⟩ := ab.two
          refine wpAnyD_one (i := 10) (by kernel_rfl) rfl (by kernel_rfl) ?_
          go_simp
          obtain ⟨W3, hW3, ab3, hp3, hv3, hz3⟩ := put2 ab (.slice ra rs.data.length rc) (.int .i64 rs.power)
          rw [hW3]
          have q3 : SC b5 #[.slice a5 L.st.data.length c5, .int .i64 L.st.power, .int .i64 L.count, .bool L.down] 29 ⟨zb, zo + i, none⟩ (.int .i64 p) W3 := q2.below hp3 (by omega) (by simp only; omega)
          refine ⟨q3, ?_⟩
          refine wpAnyD_one (i := 11) (by kernel_rfl) rfl (by kernel_rfl) ?_
          go_simp
          have hby := hro2.keptO2 hne hW3
          refine wpAnyD_done (by kernel_rfl) ?_ _
          go_wp2_with fail
          go_meet
          exact ⟨r, ra, rc, rfl, rfl, hrr, ab3, hby, hne, hk2.trans (hp3.mono hrr)⟩
        · go_simp
          have q1 : SC b5 #[.slice a5 L.st.data.length c5, .int .i64 L.st.power, .int .i64 L.count, .bool L.down] 29 ⟨zb, zo + i, none⟩ (.int .i64 p) (W0.alloc (.cells #[.slice none 0 0, .int .i64 0] 27)) := q0.below ((Below.refl _ W0).alloc (Nat.le_refl _) _) (by omega) (by simp only; omega)
          refine ⟨q1, ?_⟩
          have ab1 := Blk.new W0 #[.slice none 0 0, .int .i64 0] 27
          have own1 := own0.alloc (.cells #[.slice none 0 0, .int .i64 0] 27)
          have hk1 : Below wr.heap.size wr (W0.alloc (.cells #[.slice none 0 0, .int .i64 0] 27)) := hk0.alloc (by omega) _
          have hrr : wr.heap.size ≤ W0.heap.size := by omega
          obtain ⟨W1, hW1⟩ : ∃ X, W0.alloc (.cells #[.slice none 0 0, .int .i64 0] 27) = X := ⟨_, rfl⟩
          have hs1 : W0.heap.size + 1 = W1.heap.size := by rw [← hW1]; simp
          obtain ⟨r, hr⟩ : ∃ X, W0.heap.size = X := ⟨_, rfl⟩
          rw [hW1] at q1 ab1 own1 hk1 ⊢
          rw [hr] at ab1 hrr hs1 ⊢
          clear hr hW1
          refine wpAnyD_one (i := 5) (by kernel_rfl) rfl (by kernel_rfl) ?_
          go_simp
          refine (restore_at hrs W1.heap.size _ W1 own1.byts (Nat.le_refl _)).mono ?_
          rintro e W2 ⟨ra, rc, rfl, hro, hrb⟩
          have q2 : SC b5 #[.slice a5 L.st.data.length c5, .int .i64 L.st.power, .int .i64 L.count, .bool L.down] 29 ⟨zb, zo + i, none⟩ (.int .i64 p) W2 := q1.below hrb (by omega) (by simp only; omega)
          refine ⟨q2, ?_⟩
          have ab := ab1.below hrb (by omega)
          have hne : Value.ownBlock (.slice ra rs.data.length rc) ≠ some r := fun h => by have := (ownsRow_cells hro h).1; omega
          have hro2 := hro.mono (base' := wr.heap.size) (by omega)
          have hk2 : Below wr.heap.size wr W2 := hk1.trans (hrb.mono (by omega))
          refine wpAnyD_take (i := 6) (v := .tuple #[.agg #[.slice ra rs.data.length rc, .int .i64 rs.power], .int .i64 code]) rfl (by kernel_rfl) (by kernel_rfl) (by kernel_rfl) (by kernel_rfl) (by kernel_rfl) (fun _ _ _ h => h) (.inl ⟨by kernel_rfl, fun W' hS => by go_simp⟩) q2 ?_
          refine wpAnyD_take (i := 7) (v := .agg #[.slice ra rs.data.length rc, .int .i64 rs.power]) rfl (by kernel_rfl) (by kernel_rfl) (by kernel_rfl) (by kernel_rfl) (by kernel_rfl) (fun _ _ _ h => h) (.inl ⟨by kernel_rfl, fun W' hS => by go_simp⟩) q2 ?_
          refine wpAnyD_take (i := 8) (v := .int .i64 code) rfl (by kernel_rfl) (by kernel_rfl) (by kernel_rfl) (by kernel_rfl) (by kernel_rfl) (fun _ _ _ h => h) (.inl ⟨by kernel_rfl, fun W' hS => by go_simp⟩) q2 ?_
          obtain ⟨e0, e1, g0, g1⟩ := ab.two
          refine wpAnyD_one (i := 10) (by kernel_rfl) rfl (by kernel_rfl) ?_
          go_simp
          obtain ⟨W3, hW3, ab3, hp3, hv3, hz3⟩ := put2 ab (.slice ra rs.data.length rc) (.int .i64 rs.power)
          rw [hW3]
          have q3 : SC b5 #[.slice a5 L.st.data.length c5, .int .i64 L.st.power, .int .i64 L.count, .bool L.down] 29 ⟨zb, zo + i, none⟩ (.int .i64 p) W3 := q2.below hp3 (by omega) (by simp only; omega)
          refine ⟨q3, ?_⟩
          refine wpAnyD_one (i := 11) (by kernel_rfl) rfl (by kernel_rfl) ?_
          go_simp
          have hby := hro2.keptO2 hne hW3
          refine wpAnyD_done (by kernel_rfl) ?_ _
          go_wp2_with fail
          go_meet
          exact ⟨r, ra, rc, rfl, rfl, hrr, ab3, hby, hne, hk2.trans (hp3.mono hrr)⟩
      case rest =>
        obtain ⟨wa, rfl⟩ : ∃ X : World, X = wc := ⟨_, rfl⟩
        obtain ⟨r8, ra, rc, rfl, rfl, hr8, ab8, ob8, hn8, hbx⟩ := hcut
        have hts1 := hts.below hbx
        have hzc1 : wa.cell? ⟨zb, zo + i, none⟩ = some (.int .i64 p) := (hbx.cell (p := ⟨zb, zo + i, none⟩) (show zb < wr.heap.size by have := hts.bel.size; omega)).trans hzcr
        have hwaw := hts.bel.size
        clear hts hzcr hbx
        go_upto_region 9 with fail
        go_cut [10, 11] from 47 to 55 (fun s10 s11 wx => ∃ r ra rc, s10 = .pointer (some ⟨r, 0, none⟩) ∧ s11 = .int .i64 code ∧ wa.heap.size ≤ r ∧ Blk wx r #[.slice ra rs.data.length rc, .int .i64 rs.power] 30 ∧ OwnB wa.heap.size wx (.slice ra rs.data.length rc) rs.data ∧ (Value.ownBlock (.slice ra rs.data.length rc) ≠ some r) ∧ Below wa.heap.size wa wx)
        case first =>
          refine region_plain (SC b6 #[.slice a6 L.st.data.length c6, .int .i64 L.st.power, .int .i64 L.count, .bool L.down] 32 ⟨zb, zo + i, none⟩ (.int .i64 p)) [] (by kernel_rfl) ?_
          have q0 : SC b6 #[.slice a6 L.st.data.length c6, .int .i64 L.st.power, .int .i64 L.count, .bool L.down] 32 ⟨zb, zo + i, none⟩ (.int .i64 p) wa.drew := ⟨hts1.box6, hzc1⟩
          refine wpAnyD_take (i := 0) (v := .agg #[.slice a6 L.st.data.length c6, .int .i64 L.st.power, .int .i64 L.count, .bool L.down]) rfl (by kernel_rfl) (by kernel_rfl) (by kernel_rfl) (by kernel_rfl) (by kernel_rfl) (fun _ _ _ h => h) (.inl ⟨by kernel_rfl, fun W' hS => by obtain ⟨c0, c1, c2, c3, f0, f1, f2, f3⟩ := hS.1.four; go_simp⟩) q0 ?_
          refine wpAnyD_take (i := 1) (v := .slice (some ⟨zb, zo, none⟩) zs.length zcap) rfl (by kernel_rfl) (by kernel_rfl) (by kernel_rfl) (by kernel_rfl) (by kernel_rfl) (fun _ _ _ h => h) (.inl ⟨by kernel_rfl, fun W' hS => by go_simp⟩) q0 ?_
          refine wpAnyD_take (i := 2) (v := .int .i64 i) rfl (by kernel_rfl) (by kernel_rfl) (by kernel_rfl) (by kernel_rfl) (by kernel_rfl) (fun _ _ _ h => h) (.inl ⟨by kernel_rfl, fun W' hS => by go_simp⟩) q0 ?_
          refine wpAnyD_take (i := 3) (v := .pointer (some ⟨zb, zo + i, none⟩)) rfl (by kernel_rfl) (by kernel_rfl) (by kernel_rfl) (by kernel_rfl) (by kernel_rfl) (fun _ _ _ h => h) (.inl ⟨by kernel_rfl, fun W' hS => by go_simp⟩) q0 ?_
          refine wpAnyD_take (i := 4) (v := .int .i64 p) rfl (by kernel_rfl) (by kernel_rfl) (by kernel_rfl) (by kernel_rfl) (by kernel_rfl) (fun _ _ _ h => h) (.inl ⟨by kernel_rfl, fun W' hS => by have h2 := hS.2; go_simp⟩) q0 ?_
          obtain ⟨W0, hW0⟩ : ∃ X, wa.drew = X := ⟨_, rfl⟩
          have hk0 : Below wa.heap.size wa wa.drew := (Below.refl _ wa).drew
          have hsz0 : wa.heap.size ≤ wa.drew.heap.size := Nat.le_refl _
          rw [hW0] at q0 hk0 hsz0 ⊢
          clear hW0
          have hlb : b6 < wa.heap.size := hts1.lt6
          have hlx : zb < wa.heap.size := by have := hts1.bel.size; omega
          have own0 := hts1.own6.below hk0 (Nat.le_refl _)
          refine wpAnyD_both (i := 5) (j := 9) (by kernel_rfl) rfl rfl (by kernel_rfl) (by kernel_rfl) ?_ ?_
          · go_simp
            refine (restore_ref_at hrs W0.heap.size _ W0 own0.byts (Nat.le_refl _) hd21).mono ?_
            rintro e W1 ⟨ra, rc, rfl, hro, hrb⟩
            have hs1 := hrb.size
            have q1 : SC b6 #[.slice a6 L.st.data.length c6, .int .i64 L.st.power, .int .i64 L.count, .bool L.down] 32 ⟨zb, zo + i, none⟩ (.int .i64 p) W1 := q0.below hrb (by omega) (by simp only; omega)
            refine ⟨q1, ?_⟩
            refine wpAnyD_take (i := 6) (v := .tuple #[.agg #[.slice ra rs.data.length rc, .int .i64 rs.power], .int .i64 code]) rfl (by kernel_rfl) (by kernel_rfl) (by kernel_rfl) (by kernel_rfl) (by kernel_rfl) (fun _ _ _ h => h) (.inl ⟨by kernel_rfl, fun W' hS => by go_simp⟩) q1 ?_
            refine wpAnyD_take (i := 7) (v := .agg #[.slice ra rs.data.length rc, .int .i64 rs.power]) rfl (by kernel_rfl) (by kernel_rfl) (by kernel_rfl) (by kernel_rfl) (by kernel_rfl) (fun _ _ _ h => h) (.inl ⟨by kernel_rfl, fun W' hS => by go_simp⟩) q1 ?_
            refine wpAnyD_take (i := 8) (v := .int .i64 code) rfl (by kernel_rfl) (by kernel_rfl) (by kernel_rfl) (by kernel_rfl) (by kernel_rfl) (fun _ _ _ h => h) (.inl ⟨by kernel_rfl, fun W' hS => by go_simp⟩) q1 ?_
            refine wpAnyD_one (i := 9) (by kernel_rfl) rfl (by kernel_rfl) ?_
            go_simp
            have q2 : SC b6 #[.slice a6 L.st.data.length c6, .int .i64 L.st.power, .int .i64 L.count, .bool L.down] 32 ⟨zb, zo + i, none⟩ (.int .i64 p) (W1.alloc (.cells #[.slice none 0 0, .int .i64 0] 30)) := q1.below ((Below.refl _ W1).alloc (Nat.le_refl _) _) (by omega) (by simp only; omega)
            refine ⟨q2, ?_⟩
            have ab := Blk.new W1 #[.slice none 0 0, .int .i64 0] 30
            have hne := hro.notNew'
            have hro2 : OwnB wa.heap.size (W1.alloc (.cells #[.slice none 0 0, .int .i64 0] 30)) _ rs.data := (hro.mono hsz0).alloc (.cells #[.slice none 0 0, .int .i64 0] 30)
            have hk2 : Below wa.heap.size wa (W1.alloc (.cells #[.slice none 0 0, .int .i64 0] 30)) := (hk0.trans (hrb.mono (by omega))).alloc (by omega) _
            have hrr : wa.heap.size ≤ W1.heap.size := by omega
            obtain ⟨W2, hW2⟩ : ∃ X, W1.alloc (.cells #[.slice none 0 0, .int .i64 0] 30) = X := ⟨_, rfl⟩
            obtain ⟨r, hr⟩ : ∃ X, W1.heap.size = X := ⟨_, rfl⟩
            rw [hW2] at q2 ab hro2 hk2 ⊢
            rw [hr] at ab hne hrr ⊢
            clear hr hW2
            obtain ⟨e0, e1, g0, g1⟩ := ab.two
            refine wpAnyD_one (i := 10) (by kernel_rfl) rfl (by kernel_rfl) ?_
            go_simp
            obtain ⟨W3, hW3, ab3, hp3, hv3, hz3⟩ := put2 ab (.slice ra rs.data.length rc) (.int .i64 rs.power)
            rw [hW3]
            have q3 : SC b6 #[.slice a6 L.st.data.length c6, .int .i64 L.st.power, .int .i64 L.count, .bool L.down] 32 ⟨zb, zo + i, none⟩ (.int .i64 p) W3 := q2.below hp3 (by omega) (by simp only; omega)
            refine ⟨q3, ?_⟩
            refine wpAnyD_one (i := 11) (by kernel_rfl) rfl (by kernel_rfl) ?_
            go_simp
            have hby := hro2.keptO2 hne hW3
            refine wpAnyD_done (by kernel_rfl) ?_ _
            go_wp2_with fail
            go_meet
            exact ⟨r, ra, rc, rfl, rfl, hrr, ab3, hby, hne, hk2.trans (hp3.mono hrr)⟩
          · go_simp
            have q1 : SC b6 #[.slice a6 L.st.data.length c6, .int .i64 L.st.power, .int .i64 L.count, .bool L.down] 32 ⟨zb, zo + i, none⟩ (.int .i64 p) (W0.alloc (.cells #[.slice none 0 0, .int .i64 0] 30)) := q0.below ((Below.refl _ W0).alloc (Nat.le_refl _) _) (by omega) (by simp only; omega)
            refine ⟨q1, ?_⟩
            have ab1 := Blk.new W0 #[.slice none 0 0, .int .i64 0] 30
            have own1 := own0.alloc (.cells #[.slice none 0 0, .int .i64 0] 30)
            have hk1 : Below wa.heap.size wa (W0.alloc (.cells #[.slice none 0 0, .int .i64 0] 30)) := hk0.alloc (by omega) _
            have hrr : wa.heap.size ≤ W0.heap.size := by omega
            obtain ⟨W1, hW1⟩ : ∃ X, W0.alloc (.cells #[.slice none 0 0, .int .i64 0] 30) = X := ⟨_, rfl⟩
            have hs1 : W0.heap.size + 1 = W1.heap.size := by rw [← hW1]; simp
            obtain ⟨r, hr⟩ : ∃ X, W0.heap.size = X := ⟨_, rfl⟩
            rw [hW1] at q1 ab1 own1 hk1 ⊢
            rw [hr] at ab1 hrr hs1 ⊢
            clear hr hW1
            refine wpAnyD_one (i := 5) (by kernel_rfl) rfl (by kernel_rfl) ?_
            go_simp
            refine (restore_ref_at hrs W1.heap.size _ W1 own1.byts (Nat.le_refl _) hd21).mono ?_
            rintro e W2 ⟨ra, rc, rfl, hro, hrb⟩
            have q2 : SC b6 #[.slice a6 L.st.data.length c6, .int .i64 L.st.power, .int .i64 L.count, .bool L.down] 32 ⟨zb, zo + i, none⟩ (.int .i64 p) W2 := q1.below hrb (by omega) (by simp only; omega)
            refine ⟨q2, ?_⟩
            have ab := ab1.below hrb (by omega)
            have hne : Value.ownBlock (.slice ra rs.data.length rc) ≠ some r := fun h => by have := (ownsRow_cells hro h).1; omega
            have hro2 := hro.mono (base' := wa.heap.size) (by omega)
            have hk2 : Below wa.heap.size wa W2 := hk1.trans (hrb.mono (by omega))
            refine wpAnyD_take (i := 6) (v := .tuple #[.agg #[.slice ra rs.data.length rc, .int .i64 rs.power], .int .i64 code]) rfl (by kernel_rfl) (by kernel_rfl) (by kernel_rfl) (by kernel_rfl) (by kernel_rfl) (fun _ _ _ h => h) (.inl ⟨by kernel_rfl, fun W' hS => by go_simp⟩) q2 ?_
            refine wpAnyD_take (i := 7) (v := .agg #[.slice ra rs.data.length rc, .int .i64 rs.power]) rfl (by kernel_rfl) (by kernel_rfl) (by kernel_rfl) (by kernel_rfl) (by kernel_rfl) (fun _ _ _ h => h) (.inl ⟨by kernel_rfl, fun W' hS => by go_simp⟩) q2 ?_
            refine wpAnyD_take (i := 8) (v := .int .i64 code) rfl (by kernel_rfl) (by kernel_rfl) (by kernel_rfl) (by kernel_rfl) (by kernel_rfl) (fun _ _ _ h => h) (.inl ⟨by kernel_rfl, fun W' hS => by go_simp⟩) q2 ?_
            obtain ⟨e0, e1, g0, g1⟩ := ab.two
            refine wpAnyD_one (i := 10) (by kernel_rfl) rfl (by kernel_rfl) ?_
            go_simp
            obtain ⟨W3, hW3, ab3, hp3, hv3, hz3⟩ := put2 ab (.slice ra rs.data.length rc) (.int .i64 rs.power)
            rw [hW3]
            have q3 : SC b6 #[.slice a6 L.st.data.length c6, .int .i64 L.st.power, .int .i64 L.count, .bool L.down] 32 ⟨zb, zo + i, none⟩ (.int .i64 p) W3 := q2.below hp3 (by omega) (by simp only; omega)
            refine ⟨q3, ?_⟩
            refine wpAnyD_one (i := 11) (by kernel_rfl) rfl (by kernel_rfl) ?_
            go_simp
            have hby := hro2.keptO2 hne hW3
            refine wpAnyD_done (by kernel_rfl) ?_ _
            go_wp2_with fail
            go_meet
            exact ⟨r, ra, rc, rfl, rfl, hrr, ab3, hby, hne, hk2.trans (hp3.mono hrr)⟩
        case rest =>
          obtain ⟨wb, rfl⟩ : ∃ X : World, X = wc := ⟨_, rfl⟩
          obtain ⟨r10, ma, mc, rfl, rfl, hr10, ab10, ob10, hn10, hbx⟩ := hcut
          have hts2 := hts1.below hbx
          have ab8' := ab8.below hbx ab8.lt
          have ob8' := ob8.below hbx (Nat.le_refl _)
          have hsz2 := hbx.size
          clear hts1 hzc1 hbx ab8 ob8
          go_upto_region 10 with fail
          refine region_plain (S2 r8 #[.slice ra rs.data.length rc, .int .i64 rs.power] 27 r10 #[.slice ma rs.data.length mc, .int .i64 rs.power] 30) [] (by kernel_rfl) ?_
          have q0 : S2 r8 #[.slice ra rs.data.length rc, .int .i64 rs.power] 27 r10 #[.slice ma rs.data.length mc, .int .i64 rs.power] 30 wb.drew := ⟨ab8', ab10⟩
          refine wpAnyD_take (i := 0) (v := .int .i64 code) rfl (by kernel_rfl) (by kernel_rfl) (by kernel_rfl) (by kernel_rfl) (by kernel_rfl) (fun _ _ _ h => h) (.inl ⟨by kernel_rfl, fun W' hS => by go_simp⟩) q0 ?_
          refine wpAnyD_take (i := 1) (v := .int .i64 code) rfl (by kernel_rfl) (by kernel_rfl) (by kernel_rfl) (by kernel_rfl) (by kernel_rfl) (fun _ _ _ h => h) (.inl ⟨by kernel_rfl, fun W' hS => by go_simp⟩) q0 ?_
          refine wpAnyD_take (i := 2) (v := .bool false) rfl (by kernel_rfl) (by kernel_rfl) (by kernel_rfl) (by kernel_rfl) (by kernel_rfl) (fun _ _ _ h => h) (.inl ⟨by kernel_rfl, fun W' hS => by go_simp⟩) q0 ?_
          refine wpAnyD_take (i := 3) (v := .bool false) rfl (by kernel_rfl) (by kernel_rfl) (by kernel_rfl) (by kernel_rfl) (by kernel_rfl) (fun _ _ _ h => h) (.inl ⟨by kernel_rfl, fun W' hS => by go_simp⟩) q0 ?_
          refine wpAnyD_take (i := 4) (v := .agg #[.slice ra rs.data.length rc, .int .i64 rs.power]) rfl (by kernel_rfl) (by kernel_rfl) (by kernel_rfl) (by kernel_rfl) (by kernel_rfl) (fun _ _ _ h => h) (.inl ⟨by kernel_rfl, fun W' hS => by obtain ⟨c0, c1, f0, f1⟩ := hS.1.two; go_simp⟩) q0 ?_
          refine wpAnyD_take (i := 6) (v := .agg #[.slice ma rs.data.length mc, .int .i64 rs.power]) rfl (by kernel_rfl) (by kernel_rfl) (by kernel_rfl) (by kernel_rfl) (by kernel_rfl) (fun _ _ _ h => h) (.inl ⟨by kernel_rfl, fun W' hS => by obtain ⟨c0, c1, f0, f1⟩ := hS.2.two; go_simp⟩) q0 ?_
          obtain ⟨W0, hW0⟩ : ∃ X, wb.drew = X := ⟨_, rfl⟩
          have hk0 : Below wb.heap.size wb W0 := hW0 ▸ (Below.refl _ wb).drew
          rw [hW0] at q0 ⊢
          clear hW0
          have hsz0 := hk0.size
          have hl8 := ab8'.lt
          have hl10 := ab10.lt
          refine wpAnyD_one (i := 5) (by kernel_rfl) rfl (by kernel_rfl) ?_
          go_simp
          refine (store_any _ _ _ _ W0).mono ?_
          rintro e W1 ⟨rfl, hb1⟩
          have q1 : S2 r8 #[.slice ra rs.data.length rc, .int .i64 rs.power] 27 r10 #[.slice ma rs.data.length mc, .int .i64 rs.power] 30 W1 := q0.below hb1 (by omega) (by omega)
          have hk1 : Below wb.heap.size wb W1 := hk0.trans (hb1.mono hsz0)
          have hsz1 := hk1.size
          refine ⟨q1, ?_⟩
          refine wpAnyD_one (i := 7) (by kernel_rfl) rfl (by kernel_rfl) ?_
          go_simp
          refine (sameStore_same wb.heap.size _ _ rs W1 (ob8'.byts.below hk1 (Nat.le_refl _)) (ob10.byts.below hk1 (Nat.le_refl _)) (by omega)).mono ?_
          rintro e W2 ⟨rfl, hb2⟩
          have q2 : S2 r8 #[.slice ra rs.data.length rc, .int .i64 rs.power] 27 r10 #[.slice ma rs.data.length mc, .int .i64 rs.power] 30 W2 := q1.below hb2 (by omega) (by omega)
          have hk2 : Below wb.heap.size wb W2 := hk1.trans (hb2.mono (by omega))
          refine ⟨q2, ?_⟩
          refine wpAnyD_take (i := 8) (v := .bool false) rfl (by kernel_rfl) (by kernel_rfl) (by kernel_rfl) (by kernel_rfl) (by kernel_rfl) (fun _ _ _ h => h) (.inl ⟨by kernel_rfl, fun W' hS => by go_simp⟩) q2 ?_
          refine wpAnyD_take (i := 9) (v := .bool false) rfl (by kernel_rfl) (by kernel_rfl) (by kernel_rfl) (by kernel_rfl) (by kernel_rfl) (fun _ _ _ h => h) (.inl ⟨by kernel_rfl, fun W' hS => by go_simp⟩) q2 ?_
          refine wpAnyD_done (by kernel_rfl) ?_ _
          have hts3 := hts2.below hk2
          have ab8 := ab8'.below hk2 hl8
          have ab10' := ab10.below hk2 hl10
          have ob8 := ob8'.below hk2 (Nat.le_refl _)
          have ob10' := ob10.below hk2 (Nat.le_refl _)
          have hsz2' := hk2.size
          clear hts2 q0 q1 q2 hk0 hk1 hb1 hb2 hsz0 hsz1 ab8' ab10 ob8' ob10 hk2
          obtain ⟨⟨L1, qs, oc⟩, ho⟩ : ∃ x, openS rs = x := ⟨_, rfl⟩
          have HO := Lib.hid ho
          clear ho
          obtain ⟨c0, c1, f0, f1⟩ := ab8.two
          have hb62 : b6 + 1 ≤ W2.heap.size := hts3.lt6
          go_wp2_with fail
          refine (open_at HO.out W2.heap.size _ W2 ob8.byts (Nat.le_refl _) hrs2.out).mono ?_
          rintro e W4 ⟨na, nc, qa, qc, rfl, hmo, hto, hb4⟩
          have hts4 := hts3.below hb4
          have ab4 := ab10'.below hb4 ab10'.lt
          have ob4 := ob10'.below hb4 (Nat.le_refl _)
          have hs4 := hb4.size
          clear c0 c1 f0 f1 ab8 ab10' hts3 ob10' ob8 hb4
          obtain ⟨c0, c1, f0, f1⟩ := ab4.two
          have hl4 := ab4.lt
          have hk5 : Below W4.heap.size W4 (W4.alloc (.cells #[.slice na L1.st.data.length nc, .int .i64 L1.st.power, .int .i64 L1.count, .bool L1.down] 29)) := (Below.refl _ W4).alloc (Nat.le_refl _) _
          have hts5 := hts4.below hk5
          have ob5 := ob4.below hk5 (Nat.le_refl _)
          have hq5 := Blk.new W4 #[.slice na L1.st.data.length nc, .int .i64 L1.st.power, .int .i64 L1.count, .bool L1.down] 29
          have hmo5 := hmo.alloc (.cells #[.slice na L1.st.data.length nc, .int .i64 L1.st.power, .int .i64 L1.count, .bool L1.down] 29)
          have htx5 := hto.txts.below hk5 hk5.size
          clear hts4 ob4 hmo hto hk5
          go_wp2_with fail
          refine (open_ref_at HO.out _ _ _ ob5.byts (Nat.le_refl _) hrs2.out hrsd.out).mono ?_
          rintro e W5 ⟨xa, xc, ya, yc, rfl, hxo, hyo, hb5⟩
          have hts6 := hts5.below hb5
          have hq6 := hq5.below hb5 hq5.lt
          have hmo6 := hmo5.below hb5 (Nat.le_refl _)
          have htx6 := htx5.below hb5 hb5.size
          have hs5 : W4.heap.size + 1 ≤ W5.heap.size := by have := hb5.size; simp at this; omega
          clear c0 c1 f0 f1 hts5 ob5 hq5 hmo5 htx5 hb5 ab4
          have hk7 : Below W5.heap.size W5 (W5.alloc (.cells #[.slice xa L1.st.data.length xc, .int .i64 L1.st.power, .int .i64 L1.count, .bool L1.down] 32)) := (Below.refl _ W5).alloc (Nat.le_refl _) _
          have hts7 := hts6.below hk7
          have hq7 := hq6.below hk7 hq6.lt
          have hmo7 := hmo6.below hk7 (Nat.le_refl _)
          have htx7 := htx6.below hk7 hk7.size
          have hx7 := Blk.new W5 #[.slice xa L1.st.data.length xc, .int .i64 L1.st.power, .int .i64 L1.count, .bool L1.down] 32
          have hxo7 := (hxo.alloc (.cells #[.slice xa L1.st.data.length xc, .int .i64 L1.st.power, .int .i64 L1.count, .bool L1.down] 32)).mono (base' := W2.heap.size) (by simp; omega)
          have hyt7 := hyo.txts.below hk7 hk7.size
          clear hts6 hq6 hmo6 htx6 hxo hyo hk7
          go_upto_region 14 with fail
          obtain ⟨W6, hW6⟩ : ∃ X, W5.alloc (.cells #[.slice xa L1.st.data.length xc, .int .i64 L1.st.power, .int .i64 L1.count, .bool L1.down] 32) = X := ⟨_, rfl⟩
          obtain ⟨r15, hr15⟩ : ∃ X, W5.heap.size = X := ⟨_, rfl⟩
          obtain ⟨r12, hr12⟩ : ∃ X, W4.heap.size = X := ⟨_, rfl⟩
          rw [hW6] at hts7 hq7 hmo7 htx7 hx7 hxo7 hyt7 ⊢
          rw [hr15] at hx7 hs5 ⊢
          rw [hr12] at hq7 hs4 hs5 ⊢
          clear hW6 hr15 hr12
          have hl12 := hq7.lt
          have hl15 := hx7.lt
          refine region_plain (S2 r12 #[.slice na L1.st.data.length nc, .int .i64 L1.st.power, .int .i64 L1.count, .bool L1.down] 29 r15 #[.slice xa L1.st.data.length xc, .int .i64 L1.st.power, .int .i64 L1.count, .bool L1.down] 32) [] (by kernel_rfl) ?_
          have q0 : S2 r12 #[.slice na L1.st.data.length nc, .int .i64 L1.st.power, .int .i64 L1.count, .bool L1.down] 29 r15 #[.slice xa L1.st.data.length xc, .int .i64 L1.st.power, .int .i64 L1.count, .bool L1.down] 32 W6.drew := ⟨hq7, hx7⟩
          refine wpAnyD_take (i := 0) (v := .int .i64 oc) rfl (by kernel_rfl) (by kernel_rfl) (by kernel_rfl) (by kernel_rfl) (by kernel_rfl) (fun _ _ _ h => h) (.inl ⟨by kernel_rfl, fun W' hS => by go_simp⟩) q0 ?_
          refine wpAnyD_take (i := 1) (v := .int .i64 oc) rfl (by kernel_rfl) (by kernel_rfl) (by kernel_rfl) (by kernel_rfl) (by kernel_rfl) (fun _ _ _ h => h) (.inl ⟨by kernel_rfl, fun W' hS => by go_simp⟩) q0 ?_
          refine wpAnyD_take (i := 2) (v := .bool false) rfl (by kernel_rfl) (by kernel_rfl) (by kernel_rfl) (by kernel_rfl) (by kernel_rfl) (fun _ _ _ h => h) (.inl ⟨by kernel_rfl, fun W' hS => by go_simp⟩) q0 ?_
          refine wpAnyD_take (i := 3) (v := .bool false) rfl (by kernel_rfl) (by kernel_rfl) (by kernel_rfl) (by kernel_rfl) (by kernel_rfl) (fun _ _ _ h => h) (.inl ⟨by kernel_rfl, fun W' hS => by go_simp⟩) q0 ?_
          refine wpAnyD_take (i := 4) (v := .agg #[.slice na L1.st.data.length nc, .int .i64 L1.st.power, .int .i64 L1.count, .bool L1.down]) rfl (by kernel_rfl) (by kernel_rfl) (by kernel_rfl) (by kernel_rfl) (by kernel_rfl) (fun _ _ _ h => h) (.inl ⟨by kernel_rfl, fun W' hS => by obtain ⟨c0, c1, c2, c3, f0, f1, f2, f3⟩ := hS.1.four; go_simp⟩) q0 ?_
          refine wpAnyD_take (i := 6) (v := .agg #[.slice xa L1.st.data.length xc, .int .i64 L1.st.power, .int .i64 L1.count, .bool L1.down]) rfl (by kernel_rfl) (by kernel_rfl) (by kernel_rfl) (by kernel_rfl) (by kernel_rfl) (fun _ _ _ h => h) (.inl ⟨by kernel_rfl, fun W' hS => by obtain ⟨c0, c1, c2, c3, f0, f1, f2, f3⟩ := hS.2.four; go_simp⟩) q0 ?_
          obtain ⟨W0, hW0⟩ : ∃ X, W6.drew = X := ⟨_, rfl⟩
          have hk0 : Below W6.heap.size W6 W0 := hW0 ▸ (Below.refl _ W6).drew
          rw [hW0] at q0 ⊢
          clear hW0
          have hsz0 := hk0.size
          refine wpAnyD_one (i := 5) (by kernel_rfl) rfl (by kernel_rfl) ?_
          go_simp
          refine (plain_any _ _ _ _ _ _ W0).mono ?_
          rintro e W7 ⟨rfl, hb1⟩
          have q1 : S2 r12 #[.slice na L1.st.data.length nc, .int .i64 L1.st.power, .int .i64 L1.count, .bool L1.down] 29 r15 #[.slice xa L1.st.data.length xc, .int .i64 L1.st.power, .int .i64 L1.count, .bool L1.down] 32 W7 := q0.below hb1 (by omega) (by omega)
          have hk1 : Below W6.heap.size W6 W7 := hk0.trans (hb1.mono hsz0)
          have hsz1 := hk1.size
          refine ⟨q1, ?_⟩
          refine wpAnyD_one (i := 7) (by kernel_rfl) rfl (by kernel_rfl) ?_
          go_simp
          refine (sameLog_same W6.heap.size _ _ L1 W7 (hmo7.byts.below hk1 (Nat.le_refl _)) (hxo7.byts.below hk1 (Nat.le_refl _)) (by omega)).mono ?_
          rintro e W8 ⟨rfl, hb2⟩
          have q2 : S2 r12 #[.slice na L1.st.data.length nc, .int .i64 L1.st.power, .int .i64 L1.count, .bool L1.down] 29 r15 #[.slice xa L1.st.data.length xc, .int .i64 L1.st.power, .int .i64 L1.count, .bool L1.down] 32 W8 := q1.below hb2 (by omega) (by omega)
          have hk2 : Below W6.heap.size W6 W8 := hk1.trans (hb2.mono (by omega))
          refine ⟨q2, ?_⟩
          refine wpAnyD_take (i := 8) (v := .bool false) rfl (by kernel_rfl) (by kernel_rfl) (by kernel_rfl) (by kernel_rfl) (by kernel_rfl) (fun _ _ _ h => h) (.inl ⟨by kernel_rfl, fun W' hS => by go_simp⟩) q2 ?_
          refine wpAnyD_take (i := 9) (v := .bool false) rfl (by kernel_rfl) (by kernel_rfl) (by kernel_rfl) (by kernel_rfl) (by kernel_rfl) (fun _ _ _ h => h) (.inl ⟨by kernel_rfl, fun W' hS => by go_simp⟩) q2 ?_
          refine wpAnyD_take (i := 10) (v := .bool false) rfl (by kernel_rfl) (by kernel_rfl) (by kernel_rfl) (by kernel_rfl) (by kernel_rfl) (fun _ _ _ h => h) (.inl ⟨by kernel_rfl, fun W' hS => by go_simp⟩) q2 ?_
          refine wpAnyD_take (i := 11) (v := .slice qa qs.length qc) rfl (by kernel_rfl) (by kernel_rfl) (by kernel_rfl) (by kernel_rfl) (by kernel_rfl) (fun _ _ _ h => h) (.inl ⟨by kernel_rfl, fun W' hS => by go_simp⟩) q2 ?_
          refine wpAnyD_take (i := 12) (v := .slice ya qs.length yc) rfl (by kernel_rfl) (by kernel_rfl) (by kernel_rfl) (by kernel_rfl) (by kernel_rfl) (fun _ _ _ h => h) (.inl ⟨by kernel_rfl, fun W' hS => by go_simp⟩) q2 ?_
          have hs8 := hk2.size
          refine wpAnyD_one (i := 13) (by kernel_rfl) rfl (by kernel_rfl) ?_
          go_simp
          refine (sameTexts_any W8.heap.size _ _ qs qs W8 (htx7.below hk2 hs8) (hyt7.below hk2 hs8)).mono ?_
          rintro e W9 ⟨rfl, n9, rfl⟩
          simp only [decide_true]
          have hk9 : Below W6.heap.size W6 (W8.drewN n9) := hk2.trans (below_drewN' n9)
          obtain ⟨W9, hW9⟩ : ∃ X, W8.drewN n9 = X := ⟨_, rfl⟩
          rw [hW9] at hk9 ⊢
          clear hW9
          have q9 : S2 r12 #[.slice na L1.st.data.length nc, .int .i64 L1.st.power, .int .i64 L1.count, .bool L1.down] 29 r15 #[.slice xa L1.st.data.length xc, .int .i64 L1.st.power, .int .i64 L1.count, .bool L1.down] 32 W9 := ⟨hq7.below hk9 hl12, hx7.below hk9 hl15⟩
          refine ⟨q9, ?_⟩
          refine wpAnyD_take (i := 14) (v := .bool false) rfl (by kernel_rfl) (by kernel_rfl) (by kernel_rfl) (by kernel_rfl) (by kernel_rfl) (fun _ _ _ h => h) (.inl ⟨by kernel_rfl, fun W' hS => by go_simp⟩) q9 ?_
          refine wpAnyD_take (i := 15) (v := .bool false) rfl (by kernel_rfl) (by kernel_rfl) (by kernel_rfl) (by kernel_rfl) (by kernel_rfl) (fun _ _ _ h => h) (.inl ⟨by kernel_rfl, fun W' hS => by go_simp⟩) q9 ?_
          refine wpAnyD_done (by kernel_rfl) ?_ _
          have hts9 := hts7.below hk9
          have hq9 := hq7.below hk9 hl12
          have hx9 := hx7.below hk9 hl15
          have hmo9 := hmo7.below hk9 (Nat.le_refl _)
          have hxo9 := hxo7.below hk9 (Nat.le_refl _)
          have hs9 := hk9.size
          clear hts7 hq7 hx7 hmo7 hxo7 htx7 hyt7 q0 q1 q2 q9 hk0 hk1 hk2 hb1 hb2 hk9 hs8 hsz0 hsz1
          go_upto_region 16 with fail
          rcases open_cases HI.out HP.out.2 hrs HO.out with ⟨rfl, rfl, hI1, hp1⟩ | ⟨rfl, hc0⟩ | ho0
          · have HI1 := Lib.hid hI1
            clear hI1
            go_upto_region 17 with fail
            refine region_plain (S2 r12 #[.slice na L1.st.data.length nc, .int .i64 L1.st.power, .int .i64 L1.count, .bool L1.down] 29 r15 #[.slice xa L1.st.data.length xc, .int .i64 L1.st.power, .int .i64 L1.count, .bool L1.down] 32) [] (by kernel_rfl) ?_
            have q0 : S2 r12 #[.slice na L1.st.data.length nc, .int .i64 L1.st.power, .int .i64 L1.count, .bool L1.down] 29 r15 #[.slice xa L1.st.data.length xc, .int .i64 L1.st.power, .int .i64 L1.count, .bool L1.down] 32 W9.drew := ⟨hq9, hx9⟩
            refine wpAnyD_take (i := 0) (v := .agg #[.slice na L1.st.data.length nc, .int .i64 L1.st.power, .int .i64 L1.count, .bool L1.down]) rfl (by kernel_rfl) (by kernel_rfl) (by kernel_rfl) (by kernel_rfl) (by kernel_rfl) (fun _ _ _ h => h) (.inl ⟨by kernel_rfl, fun W' hS => by obtain ⟨c0, c1, c2, c3, f0, f1, f2, f3⟩ := hS.1.four; go_simp⟩) q0 ?_
            refine wpAnyD_take (i := 1) (v := .agg #[.slice xa L1.st.data.length xc, .int .i64 L1.st.power, .int .i64 L1.count, .bool L1.down]) rfl (by kernel_rfl) (by kernel_rfl) (by kernel_rfl) (by kernel_rfl) (by kernel_rfl) (fun _ _ _ h => h) (.inl ⟨by kernel_rfl, fun W' hS => by obtain ⟨c0, c1, c2, c3, f0, f1, f2, f3⟩ := hS.2.four; go_simp⟩) q0 ?_
            obtain ⟨W0, hW0⟩ : ∃ X, W9.drew = X := ⟨_, rfl⟩
            have hk0 : Below W9.heap.size W9 W0 := hW0 ▸ (Below.refl _ W9).drew
            rw [hW0] at q0 ⊢
            clear hW0
            have hts0 := hts9.below hk0
            have o12 := (hmo9.below hk0 (Nat.le_refl _)).mono (base' := b6 + 1) hb62
            have o15 := (hxo9.below hk0 (Nat.le_refl _)).mono (base' := b6 + 1) hb62
            have hlt56 := hts0.lt
            have hr12b : b6 < r12 := by omega
            have hr15b : b6 < r15 := by omega
            obtain ⟨c0, c1, c2, c3, f0, f1, f2, f3⟩ := hts0.box5.four
            refine wpAnyD_one (i := 2) (by kernel_rfl) rfl (by kernel_rfl) ?_
            go_simp
            have hp5 := hts0.put5 o12
            obtain ⟨W1, hW1, _, _, ha1, _⟩ := put4 hts0.box5 (.slice na L1.st.data.length nc) (.int .i64 L1.st.power) (.int .i64 L1.count) (.bool L1.down)
            rw [hW1] at hp5 ⊢
            have q1 : S2 r12 #[.slice na L1.st.data.length nc, .int .i64 L1.st.power, .int .i64 L1.count, .bool L1.down] 29 r15 #[.slice xa L1.st.data.length xc, .int .i64 L1.st.power, .int .i64 L1.count, .bool L1.down] 32 W1 := ⟨q0.1.above ha1 (by omega), q0.2.above ha1 (by omega)⟩
            have o15' := o15.above ha1 (by omega)
            clear hW1 c0 c1 c2 c3 f0 f1 f2 f3
            refine ⟨q1, ?_⟩
            obtain ⟨c0, c1, c2, c3, f0, f1, f2, f3⟩ := hp5.box6.four
            refine wpAnyD_one (i := 3) (by kernel_rfl) rfl (by kernel_rfl) ?_
            go_simp
            have hp6 := hp5.put6 o15'
            obtain ⟨W3, hW3, _, _, ha2, _⟩ := put4 hp5.box6 (.slice xa L1.st.data.length xc) (.int .i64 L1.st.power) (.int .i64 L1.count) (.bool L1.down)
            rw [hW3] at hp6 ⊢
            have q2 : S2 r12 #[.slice na L1.st.data.length nc, .int .i64 L1.st.power, .int .i64 L1.count, .bool L1.down] 29 r15 #[.slice xa L1.st.data.length xc, .int .i64 L1.st.power, .int .i64 L1.count, .bool L1.down] 32 W3 := ⟨q1.1.above ha2 (by omega), q1.2.above ha2 (by omega)⟩
            refine ⟨q2, ?_⟩
            refine wpAnyD_done (by kernel_rfl) ?_ _
            clear hW3 c0 c1 c2 c3 f0 f1 f2 f3 q0 q1 q2 hk0 hts9 hts0 o12 o15 o15' hp5 ha1 ha2 hq9 hx9 hmo9 hxo9
            go_wp2_with fail
            go_loopw [18, 19, 20, 21, 22] (fun s18 s19 s20 s21 s22 wx => ∃ (k : Nat) (L2 : Lg) (a5 : Option Addr) (c5 : Nat) (a6 : Option Addr) (c6 : Nat) (kept2 : List (List UInt8)), k ≤ ps.length ∧ s18 = .int .i64 k ∧
                kept2.length ≤ 12 * i + k ∧ RS w wx b5 b6 L2 a5 c5 L2 a6 c6 ∧ Inv L2 kept2 ∧ Hid (L2.st.power ≤ 2 ^ 63 - 1)) (fun s18 s19 s20 s21 s22 _ => ps.length - (intOf s18).toNat)
            case atStart => exact ⟨0, L1, na, nc, xa, xc, kept, Nat.zero_le _, rfl, by omega, hp6, HI1.out, hp1⟩
            case round =>
              obtain ⟨k, L2, a5, c5, a6, c6, kept2, hk, rfl, hkl2, hts2, hinv2, hpw2⟩ := hrel
              clear hp6
              obtain ⟨d0, d1, d2, d3, g0, g1, g2, g3⟩ := hts2.box5.four
              by_cases hkp : k < ps.length
              · cases hdn : L2.down with
                | true =>
                  rw [hdn] at d3
                  go_wp2_with fail
                  go_roundw
                  case rel => exact ⟨i + 1, L2, a5, c5, a6, c6, kept2, by omega, by go_num, by omega, hts2, hinv2, hpw2⟩
                  case measure => simp [intOf]; omega
                | false =>
                  rw [hdn] at d3
                  obtain ⟨qb, qo, x, hqa, hqbK, hqc0, hqx⟩ := HPC.out k hkp
                  subst hqa
                  obtain ⟨q, hq⟩ : ∃ q, ps[k]?.getD [] = q := ⟨_, rfl⟩
                  rw [hq] at hqx
                  have hqcr : wr.cell? ⟨qb, qo + k, none⟩ = some x := (hts2.bel.cell (p := ⟨qb, qo + k, none⟩) hqbK).trans hqc0
                  obtain ⟨xa', xc', rfl, hx1, hx2, _⟩ := id hqx
                  have hx2' : xc' ≤ 2 ^ 63 - 1 := by unfold maxLen at hx2; omega
                  clear hqc0 hq hx2
                  by_cases h300 : 300 < q.length
                  · have t300 : decide ((300 : Int) < (q.length : Int)) = true := by simp; omega
                    clear h300
                    go_wp2_with fail
                    refine (awake_any _).mono ?_
                    rintro e w1 ⟨rfl, hq1⟩
                    have hb := hts2.bel.trans (hq1.mono hts2.bel.size)
                    go_wp2_with fail
                    go_ret
                    exact ⟨rfl, hb⟩
                  have t300 : decide ((300 : Int) < (q.length : Int)) = false := by simp; omega
                  have hd21 : L2.st.data.length ≤ 2 ^ 21 := by have := hinv2.dlen; omega
                  obtain ⟨L3, ac, kept3, hadd, hinv3, hk3, hpw3⟩ := add_cases hinv2 hdn (by omega) (by omega : q.length ≤ 300) hpw2
                  have hb5f : Blk wr b5 #[.slice a5 L2.st.data.length c5, .int .i64 L2.st.power, .int .i64 L2.count, .bool false] 29 := hdn ▸ hts2.box5
                  have HI3 := Lib.hid hinv3
                  have HPW : Hid (L2.st.power ≤ 2 ^ 63 - 1) := hpw2
                  clear h300 hinv2 hinv3
                  go_upto_region 23 with fail
                  clear d0 d1 d2 d3 g0 g1 g2 g3
                  go_cut [19, 20] from 128 to 136 (fun s19 s20 wx => ∃ r ra rc, s19 = .pointer (some ⟨r, 0, none⟩) ∧ s20 = .int .i64 ac ∧ wr.heap.size ≤ r ∧ Blk wx r #[.slice ra L3.st.data.length rc, .int .i64 L3.st.power, .int .i64 L3.count, .bool L3.down] 29 ∧ OwnB wr.heap.size wx (.slice ra L3.st.data.length rc) L3.st.data ∧ (Value.ownBlock (.slice ra L3.st.data.length rc) ≠ some r) ∧ Below wr.heap.size wr wx)
                  case first =>
                    refine region_plain (SC b5 #[.slice a5 L2.st.data.length c5, .int .i64 L2.st.power, .int .i64 L2.count, .bool false] 29 ⟨qb, qo + k, none⟩ (.slice xa' q.length xc')) [] (by kernel_rfl) ?_
                    have q0 : SC b5 #[.slice a5 L2.st.data.length c5, .int .i64 L2.st.power, .int .i64 L2.count, .bool false] 29 ⟨qb, qo + k, none⟩ (.slice xa' q.length xc') wr.drew := ⟨hb5f, hqcr⟩
                    refine wpAnyD_take (i := 0) (v := .agg #[.slice a5 L2.st.data.length c5, .int .i64 L2.st.power, .int .i64 L2.count, .bool false]) rfl (by kernel_rfl) (by kernel_rfl) (by kernel_rfl) (by kernel_rfl) (by kernel_rfl) (fun _ _ _ h => h) (.inl ⟨by kernel_rfl, fun W' hS => by obtain ⟨c0, c1, c2, c3, f0, f1, f2, f3⟩ := hS.1.four; go_simp⟩) q0 ?_
                    refine wpAnyD_take (i := 1) (v := .slice (some ⟨qb, qo, none⟩) ps.length pcap) rfl (by kernel_rfl) (by kernel_rfl) (by kernel_rfl) (by kernel_rfl) (by kernel_rfl) (fun _ _ _ h => h) (.inl ⟨by kernel_rfl, fun W' hS => by go_simp⟩) q0 ?_
                    refine wpAnyD_take (i := 2) (v := .int .i64 k) rfl (by kernel_rfl) (by kernel_rfl) (by kernel_rfl) (by kernel_rfl) (by kernel_rfl) (fun _ _ _ h => h) (.inl ⟨by kernel_rfl, fun W' hS => by go_simp⟩) q0 ?_
                    refine wpAnyD_take (i := 3) (v := .pointer (some ⟨qb, qo + k, none⟩)) rfl (by kernel_rfl) (by kernel_rfl) (by kernel_rfl) (by kernel_rfl) (by kernel_rfl) (fun _ _ _ h => h) (.inl ⟨by kernel_rfl, fun W' hS => by go_simp⟩) q0 ?_
                    refine wpAnyD_take (i := 4) (v := .slice xa' q.length xc') rfl (by kernel_rfl) (by kernel_rfl) (by kernel_rfl) (by kernel_rfl) (by kernel_rfl) (fun _ _ _ h => h) (.inl ⟨by kernel_rfl, fun W' hS => by have h2 := hS.2; go_simp⟩) q0 ?_
                    obtain ⟨W0, hW0⟩ : ∃ X, wr.drew = X := ⟨_, rfl⟩
                    have hk0 : Below wr.heap.size wr wr.drew := (Below.refl _ wr).drew
                    have hsz0 : wr.heap.size ≤ wr.drew.heap.size := Nat.le_refl _
                    rw [hW0] at q0 hk0 hsz0 ⊢
                    clear hW0
                    have hlb : b5 < wr.heap.size := hts2.lt5
                    have hlx : qb < wr.heap.size := by have := hts2.bel.size; omega
                    have own0 := hts2.own5.below hk0 (Nat.le_refl _)
                    refine wpAnyD_both (i := 5) (j := 9) (by kernel_rfl) rfl rfl (by kernel_rfl) (by kernel_rfl) ?_ ?_
                    · go_simp
                      refine (add_at' hadd hdn W0.heap.size _ _ W0 own0.byts (hqx.below (hts2.bel.trans (hk0.mono hts2.bel.size)) (Nat.le_trans hts2.bel.size hk0.size)) (Nat.le_refl _) HPW.out).mono ?_
                      rintro e W1 ⟨ra, rc, rfl, hro, hrb⟩
                      have hs1 := hrb.size
                      have q1 : SC b5 #[.slice a5 L2.st.data.length c5, .int .i64 L2.st.power, .int .i64 L2.count, .bool false] 29 ⟨qb, qo + k, none⟩ (.slice xa' q.length xc') W1 := q0.below hrb (by omega) (by simp only; omega)
                      refine ⟨q1, ?_⟩
                      refine wpAnyD_take (i := 6) (v := .tuple #[.agg #[.slice ra L3.st.data.length rc, .int .i64 L3.st.power, .int .i64 L3.count, .bool L3.down], .int .i64 ac]) rfl (by kernel_rfl) (by kernel_rfl) (by kernel_rfl) (by kernel_rfl) (by kernel_rfl) (fun _ _ _ h => h) (.inl ⟨by kernel_rfl, fun W' hS => by go_simp⟩) q1 ?_
                      refine wpAnyD_take (i := 7) (v := .agg #[.slice ra L3.st.data.length rc, .int .i64 L3.st.power, .int .i64 L3.count, .bool L3.down]) rfl (by kernel_rfl) (by kernel_rfl) (by kernel_rfl) (by kernel_rfl) (by kernel_rfl) (fun _ _ _ h => h) (.inl ⟨by kernel_rfl, fun W' hS => by go_simp⟩) q1 ?_
                      refine wpAnyD_take (i := 8) (v := .int .i64 ac) rfl (by kernel_rfl) (by kernel_rfl) (by kernel_rfl) (by kernel_rfl) (by kernel_rfl) (fun _ _ _ h => h) (.inl ⟨by kernel_rfl, fun W' hS => by go_simp⟩) q1 ?_
                      refine wpAnyD_one (i := 9) (by kernel_rfl) rfl (by kernel_rfl) ?_
                      go_simp
                      have q2 : SC b5 #[.slice a5 L2.st.data.length c5, .int .i64 L2.st.power, .int .i64 L2.count, .bool false] 29 ⟨qb, qo + k, none⟩ (.slice xa' q.length xc') (W1.alloc (.cells #[.slice none 0 0, .int .i64 0, .int .i64 0, .bool false] 29)) := q1.below ((Below.refl _ W1).alloc (Nat.le_refl _) _) (by omega) (by simp only; omega)
                      refine ⟨q2, ?_⟩
                      have ab := Blk.new W1 #[.slice none 0 0, .int .i64 0, .int .i64 0, .bool false] 29
                      have hne := hro.notNew'
                      have hro2 : OwnB wr.heap.size (W1.alloc (.cells #[.slice none 0 0, .int .i64 0, .int .i64 0, .bool false] 29)) _ L3.st.data := (hro.mono hsz0).alloc (.cells #[.slice none 0 0, .int .i64 0, .int .i64 0, .bool false] 29)
                      have hk2 : Below wr.heap.size wr (W1.alloc (.cells #[.slice none 0 0, .int .i64 0, .int .i64 0, .bool false] 29)) := (hk0.trans (hrb.mono (by omega))).alloc (by omega) _
                      have hrr : wr.heap.size ≤ W1.heap.size := by omega
                      obtain ⟨W2, hW2⟩ : ∃ X, W1.alloc (.cells #[.slice none 0 0, .int .i64 0, .int .i64 0, .bool false] 29) = X := ⟨_, rfl⟩
                      obtain ⟨r, hr⟩ : ∃ X, W1.heap.size = X := ⟨_, rfl⟩
                      rw [hW2] at q2 ab hro2 hk2 ⊢
                      rw [hr] at ab hne hrr ⊢
                      clear hr hW2
                      obtain ⟨e0, e1, e2, e3, g0, g1, g2, g3⟩ := ab.four
                      refine wpAnyD_one (i := 10) (by kernel_rfl) rfl (by kernel_rfl) ?_
                      go_simp
                      obtain ⟨W3, hW3, ab3, hp3, hv3, hz3⟩ := put4 ab (.slice ra L3.st.data.length rc) (.int .i64 L3.st.power) (.int .i64 L3.count) (.bool L3.down)
                      rw [hW3]
                      have q3 : SC b5 #[.slice a5 L2.st.data.length c5, .int .i64 L2.st.power, .int .i64 L2.count, .bool false] 29 ⟨qb, qo + k, none⟩ (.slice xa' q.length xc') W3 := q2.below hp3 (by omega) (by simp only; omega)
                      refine ⟨q3, ?_⟩
                      refine wpAnyD_one (i := 11) (by kernel_rfl) rfl (by kernel_rfl) ?_
                      go_simp
                      have hby := hro2.keptO4 hne hW3
                      refine wpAnyD_done (by kernel_rfl) ?_ _
                      go_wp2_with fail
                      go_meet
                      exact ⟨r, ra, rc, rfl, rfl, hrr, ab3, hby, hne, hk2.trans (hp3.mono hrr)⟩
                    · go_simp
                      have q1 : SC b5 #[.slice a5 L2.st.data.length c5, .int .i64 L2.st.power, .int .i64 L2.count, .bool false] 29 ⟨qb, qo + k, none⟩ (.slice xa' q.length xc') (W0.alloc (.cells #[.slice none 0 0, .int .i64 0, .int .i64 0, .bool false] 29)) := q0.below ((Below.refl _ W0).alloc (Nat.le_refl _) _) (by omega) (by simp only; omega)
                      refine ⟨q1, ?_⟩
                      have ab1 := Blk.new W0 #[.slice none 0 0, .int .i64 0, .int .i64 0, .bool false] 29
                      have own1 := own0.alloc (.cells #[.slice none 0 0, .int .i64 0, .int .i64 0, .bool false] 29)
                      have hk1 : Below wr.heap.size wr (W0.alloc (.cells #[.slice none 0 0, .int .i64 0, .int .i64 0, .bool false] 29)) := hk0.alloc (by omega) _
                      have hrr : wr.heap.size ≤ W0.heap.size := by omega
                      obtain ⟨W1, hW1⟩ : ∃ X, W0.alloc (.cells #[.slice none 0 0, .int .i64 0, .int .i64 0, .bool false] 29) = X := ⟨_, rfl⟩
                      have hs1 : W0.heap.size + 1 = W1.heap.size := by rw [← hW1]; simp
                      obtain ⟨r, hr⟩ : ∃ X, W0.heap.size = X := ⟨_, rfl⟩
                      rw [hW1] at q1 ab1 own1 hk1 ⊢
                      rw [hr] at ab1 hrr hs1 ⊢
                      clear hr hW1
                      refine wpAnyD_one (i := 5) (by kernel_rfl) rfl (by kernel_rfl) ?_
                      go_simp
                      refine (add_at' hadd hdn W1.heap.size _ _ W1 own1.byts (hqx.below (hts2.bel.trans (hk1.mono hts2.bel.size)) (Nat.le_trans hts2.bel.size hk1.size)) (Nat.le_refl _) HPW.out).mono ?_
                      rintro e W2 ⟨ra, rc, rfl, hro, hrb⟩
                      have q2 : SC b5 #[.slice a5 L2.st.data.length c5, .int .i64 L2.st.power, .int .i64 L2.count, .bool false] 29 ⟨qb, qo + k, none⟩ (.slice xa' q.length xc') W2 := q1.below hrb (by omega) (by simp only; omega)
                      refine ⟨q2, ?_⟩
                      have ab := ab1.below hrb (by omega)
                      have hne : Value.ownBlock (.slice ra L3.st.data.length rc) ≠ some r := fun h => by have := (ownsRow_cells hro h).1; omega
                      have hro2 := hro.mono (base' := wr.heap.size) (by omega)
                      have hk2 : Below wr.heap.size wr W2 := hk1.trans (hrb.mono (by omega))
                      refine wpAnyD_take (i := 6) (v := .tuple #[.agg #[.slice ra L3.st.data.length rc, .int .i64 L3.st.power, .int .i64 L3.count, .bool L3.down], .int .i64 ac]) rfl (by kernel_rfl) (by kernel_rfl) (by kernel_rfl) (by kernel_rfl) (by kernel_rfl) (fun _ _ _ h => h) (.inl ⟨by kernel_rfl, fun W' hS => by go_simp⟩) q2 ?_
                      refine wpAnyD_take (i := 7) (v := .agg #[.slice ra L3.st.data.length rc, .int .i64 L3.st.power, .int .i64 L3.count, .bool L3.down]) rfl (by kernel_rfl) (by kernel_rfl) (by kernel_rfl) (by kernel_rfl) (by kernel_rfl) (fun _ _ _ h => h) (.inl ⟨by kernel_rfl, fun W' hS => by go_simp⟩) q2 ?_
                      refine wpAnyD_take (i := 8) (v := .int .i64 ac) rfl (by kernel_rfl) (by kernel_rfl) (by kernel_rfl) (by kernel_rfl) (by kernel_rfl) (fun _ _ _ h => h) (.inl ⟨by kernel_rfl, fun W' hS => by go_simp⟩) q2 ?_
                      obtain ⟨e0, e1, e2, e3, g0, g1, g2, g3⟩ := ab.four
                      refine wpAnyD_one (i := 10) (by kernel_rfl) rfl (by kernel_rfl) ?_
                      go_simp
                      obtain ⟨W3, hW3, ab3, hp3, hv3, hz3⟩ := put4 ab (.slice ra L3.st.data.length rc) (.int .i64 L3.st.power) (.int .i64 L3.count) (.bool L3.down)
                      rw [hW3]
                      have q3 : SC b5 #[.slice a5 L2.st.data.length c5, .int .i64 L2.st.power, .int .i64 L2.count, .bool false] 29 ⟨qb, qo + k, none⟩ (.slice xa' q.length xc') W3 := q2.below hp3 (by omega) (by simp only; omega)
                      refine ⟨q3, ?_⟩
                      refine wpAnyD_one (i := 11) (by kernel_rfl) rfl (by kernel_rfl) ?_
                      go_simp
                      have hby := hro2.keptO4 hne hW3
                      refine wpAnyD_done (by kernel_rfl) ?_ _
                      go_wp2_with fail
                      go_meet
                      exact ⟨r, ra, rc, rfl, rfl, hrr, ab3, hby, hne, hk2.trans (hp3.mono hrr)⟩
                  case rest =>
                    obtain ⟨wa, rfl⟩ : ∃ X : World, X = wc := ⟨_, rfl⟩
                    obtain ⟨r19, ra, rc, rfl, rfl, hr19, ab19, ob19, hn19, hbx⟩ := hcut
                    have hts3 := hts2.below hbx
                    have hqc1 : wa.cell? ⟨qb, qo + k, none⟩ = some (.slice xa' q.length xc') := (hbx.cell (p := ⟨qb, qo + k, none⟩) (show qb < wr.heap.size by have := hts2.bel.size; omega)).trans hqcr
                    have hwaw := hbx.size
                    have hl6 := hts2.lt6
                    have hb6f : Blk wa b6 #[.slice a6 L2.st.data.length c6, .int .i64 L2.st.power, .int .i64 L2.count, .bool false] 32 := hdn ▸ hts3.box6
                    clear hts2 hqcr hbx hb5f
                    go_upto_region 24 with fail
                    go_cut [21, 22] from 137 to 145 (fun s21 s22 wx => ∃ r ra rc, s21 = .pointer (some ⟨r, 0, none⟩) ∧ s22 = .int .i64 ac ∧ wa.heap.size ≤ r ∧ Blk wx r #[.slice ra L3.st.data.length rc, .int .i64 L3.st.power, .int .i64 L3.count, .bool L3.down] 32 ∧ OwnB wa.heap.size wx (.slice ra L3.st.data.length rc) L3.st.data ∧ (Value.ownBlock (.slice ra L3.st.data.length rc) ≠ some r) ∧ Below wa.heap.size wa wx)
                    case first =>
                      refine region_plain (SC b6 #[.slice a6 L2.st.data.length c6, .int .i64 L2.st.power, .int .i64 L2.count, .bool false] 32 ⟨qb, qo + k, none⟩ (.slice xa' q.length xc')) [] (by kernel_rfl) ?_
                      have q0 : SC b6 #[.slice a6 L2.st.data.length c6, .int .i64 L2.st.power, .int .i64 L2.count, .bool false] 32 ⟨qb, qo + k, none⟩ (.slice xa' q.length xc') wa.drew := ⟨hb6f, hqc1⟩
                      refine wpAnyD_take (i := 0) (v := .agg #[.slice a6 L2.st.data.length c6, .int .i64 L2.st.power, .int .i64 L2.count, .bool false]) rfl (by kernel_rfl) (by kernel_rfl) (by kernel_rfl) (by kernel_rfl) (by kernel_rfl) (fun _ _ _ h => h) (.inl ⟨by kernel_rfl, fun W' hS => by obtain ⟨c0, c1, c2, c3, f0, f1, f2, f3⟩ := hS.1.four; go_simp⟩) q0 ?_
                      refine wpAnyD_take (i := 1) (v := .slice (some ⟨qb, qo, none⟩) ps.length pcap) rfl (by kernel_rfl) (by kernel_rfl) (by kernel_rfl) (by kernel_rfl) (by kernel_rfl) (fun _ _ _ h => h) (.inl ⟨by kernel_rfl, fun W' hS => by go_simp⟩) q0 ?_
                      refine wpAnyD_take (i := 2) (v := .int .i64 k) rfl (by kernel_rfl) (by kernel_rfl) (by kernel_rfl) (by kernel_rfl) (by kernel_rfl) (fun _ _ _ h => h) (.inl ⟨by kernel_rfl, fun W' hS => by go_simp⟩) q0 ?_
                      refine wpAnyD_take (i := 3) (v := .pointer (some ⟨qb, qo + k, none⟩)) rfl (by kernel_rfl) (by kernel_rfl) (by kernel_rfl) (by kernel_rfl) (by kernel_rfl) (fun _ _ _ h => h) (.inl ⟨by kernel_rfl, fun W' hS => by go_simp⟩) q0 ?_
                      refine wpAnyD_take (i := 4) (v := .slice xa' q.length xc') rfl (by kernel_rfl) (by kernel_rfl) (by kernel_rfl) (by kernel_rfl) (by kernel_rfl) (fun _ _ _ h => h) (.inl ⟨by kernel_rfl, fun W' hS => by have h2 := hS.2; go_simp⟩) q0 ?_
                      obtain ⟨W0, hW0⟩ : ∃ X, wa.drew = X := ⟨_, rfl⟩
                      have hk0 : Below wa.heap.size wa wa.drew := (Below.refl _ wa).drew
                      have hsz0 : wa.heap.size ≤ wa.drew.heap.size := Nat.le_refl _
                      rw [hW0] at q0 hk0 hsz0 ⊢
                      clear hW0
                      have hlb : b6 < wa.heap.size := hts3.lt6
                      have hlx : qb < wa.heap.size := by have := hts3.bel.size; omega
                      have own0 := hts3.own6.below hk0 (Nat.le_refl _)
                      refine wpAnyD_both (i := 5) (j := 9) (by kernel_rfl) rfl rfl (by kernel_rfl) (by kernel_rfl) ?_ ?_
                      · go_simp
                        refine (add_ref_at' hadd hdn W0.heap.size _ _ W0 own0.byts (hqx.below (hts3.bel.trans (hk0.mono hts3.bel.size)) (Nat.le_trans hts3.bel.size hk0.size)) (Nat.le_refl _) HPW.out hd21).mono ?_
                        rintro e W1 ⟨ra, rc, rfl, hro, hrb⟩
                        have hs1 := hrb.size
                        have q1 : SC b6 #[.slice a6 L2.st.data.length c6, .int .i64 L2.st.power, .int .i64 L2.count, .bool false] 32 ⟨qb, qo + k, none⟩ (.slice xa' q.length xc') W1 := q0.below hrb (by omega) (by simp only; omega)
                        refine ⟨q1, ?_⟩
                        refine wpAnyD_take (i := 6) (v := .tuple #[.agg #[.slice ra L3.st.data.length rc, .int .i64 L3.st.power, .int .i64 L3.count, .bool L3.down], .int .i64 ac]) rfl (by kernel_rfl) (by kernel_rfl) (by kernel_rfl) (by kernel_rfl) (by kernel_rfl) (fun _ _ _ h => h) (.inl ⟨by kernel_rfl, fun W' hS => by go_simp⟩) q1 ?_
                        refine wpAnyD_take (i := 7) (v := .agg #[.slice ra L3.st.data.length rc, .int .i64 L3.st.power, .int .i64 L3.count, .bool L3.down]) rfl (by kernel_rfl) (by kernel_rfl) (by kernel_rfl) (by kernel_rfl) (by kernel_rfl) (fun _ _ _ h => h) (.inl ⟨by kernel_rfl, fun W' hS => by go_simp⟩) q1 ?_
                        refine wpAnyD_take (i := 8) (v := .int .i64 ac) rfl (by kernel_rfl) (by kernel_rfl) (by kernel_rfl) (by kernel_rfl) (by kernel_rfl) (fun _ _ _ h => h) (.inl ⟨by kernel_rfl, fun W' hS => by go_simp⟩) q1 ?_
                        refine wpAnyD_one (i := 9) (by kernel_rfl) rfl (by kernel_rfl) ?_
                        go_simp
                        have q2 : SC b6 #[.slice a6 L2.st.data.length c6, .int .i64 L2.st.power, .int .i64 L2.count, .bool false] 32 ⟨qb, qo + k, none⟩ (.slice xa' q.length xc') (W1.alloc (.cells #[.slice none 0 0, .int .i64 0, .int .i64 0, .bool false] 32)) := q1.below ((Below.refl _ W1).alloc (Nat.le_refl _) _) (by omega) (by simp only; omega)
                        refine ⟨q2, ?_⟩
                        have ab := Blk.new W1 #[.slice none 0 0, .int .i64 0, .int .i64 0, .bool false] 32
                        have hne := hro.notNew'
                        have hro2 : OwnB wa.heap.size (W1.alloc (.cells #[.slice none 0 0, .int .i64 0, .int .i64 0, .bool false] 32)) _ L3.st.data := (hro.mono hsz0).alloc (.cells #[.slice none 0 0, .int .i64 0, .int .i64 0, .bool false] 32)
                        have hk2 : Below wa.heap.size wa (W1.alloc (.cells #[.slice none 0 0, .int .i64 0, .int .i64 0, .bool false] 32)) := (hk0.trans (hrb.mono (by omega))).alloc (by omega) _
                        have hrr : wa.heap.size ≤ W1.heap.size := by omega
                        obtain ⟨W2, hW2⟩ : ∃ X, W1.alloc (.cells #[.slice none 0 0, .int .i64 0, .int .i64 0, .bool false] 32) = X := ⟨_, rfl⟩
                        obtain ⟨r, hr⟩ : ∃ X, W1.heap.size = X := ⟨_, rfl⟩
                        rw [hW2] at q2 ab hro2 hk2 ⊢
                        rw [hr] at ab hne hrr ⊢
                        clear hr hW2
                        obtain ⟨e0, e1, e2, e3, g0, g1, g2, g3⟩ := ab.four
                        refine wpAnyD_one (i := 10) (by kernel_rfl) rfl (by kernel_rfl) ?_
                        go_simp
                        obtain ⟨W3, hW3, ab3, hp3, hv3, hz3⟩ := put4 ab (.slice ra L3.st.data.length rc) (.int .i64 L3.st.power) (.int .i64 L3.count) (.bool L3.down)
                        rw [hW3]
                        have q3 : SC b6 #[.slice a6 L2.st.data.length c6, .int .i64 L2.st.power, .int .i64 L2.count, .bool false] 32 ⟨qb, qo + k, none⟩ (.slice xa' q.length xc') W3 := q2.below hp3 (by omega) (by simp only; omega)
                        refine ⟨q3, ?_⟩
                        refine wpAnyD_one (i := 11) (by kernel_rfl) rfl (by kernel_rfl) ?_
                        go_simp
                        have hby := hro2.keptO4 hne hW3
                        refine wpAnyD_done (by kernel_rfl) ?_ _
                        go_wp2_with fail
                        go_meet
                        exact ⟨r, ra, rc, rfl, rfl, hrr, ab3, hby, hne, hk2.trans (hp3.mono hrr)⟩
                      · go_simp
                        have q1 : SC b6 #[.slice a6 L2.st.data.length c6, .int .i64 L2.st.power, .int .i64 L2.count, .bool false] 32 ⟨qb, qo + k, none⟩ (.slice xa' q.length xc') (W0.alloc (.cells #[.slice none 0 0, .int .i64 0, .int .i64 0, .bool false] 32)) := q0.below ((Below.refl _ W0).alloc (Nat.le_refl _) _) (by omega) (by simp only; omega)
                        refine ⟨q1, ?_⟩
                        have ab1 := Blk.new W0 #[.slice none 0 0, .int .i64 0, .int .i64 0, .bool false] 32
                        have own1 := own0.alloc (.cells #[.slice none 0 0, .int .i64 0, .int .i64 0, .bool false] 32)
                        have hk1 : Below wa.heap.size wa (W0.alloc (.cells #[.slice none 0 0, .int .i64 0, .int .i64 0, .bool false] 32)) := hk0.alloc (by omega) _
                        have hrr : wa.heap.size ≤ W0.heap.size := by omega
                        obtain ⟨W1, hW1⟩ : ∃ X, W0.alloc (.cells #[.slice none 0 0, .int .i64 0, .int .i64 0, .bool false] 32) = X := ⟨_, rfl⟩
                        have hs1 : W0.heap.size + 1 = W1.heap.size := by rw [← hW1]; simp
                        obtain ⟨r, hr⟩ : ∃ X, W0.heap.size = X := ⟨_, rfl⟩
                        rw [hW1] at q1 ab1 own1 hk1 ⊢
                        rw [hr] at ab1 hrr hs1 ⊢
                        clear hr hW1
                        refine wpAnyD_one (i := 5) (by kernel_rfl) rfl (by kernel_rfl) ?_
                        go_simp
                        refine (add_ref_at' hadd hdn W1.heap.size _ _ W1 own1.byts (hqx.below (hts3.bel.trans (hk1.mono hts3.bel.size)) (Nat.le_trans hts3.bel.size hk1.size)) (Nat.le_refl _) HPW.out hd21).mono ?_
                        rintro e W2 ⟨ra, rc, rfl, hro, hrb⟩
                        have q2 : SC b6 #[.slice a6 L2.st.data.length c6, .int .i64 L2.st.power, .int .i64 L2.count, .bool false] 32 ⟨qb, qo + k, none⟩ (.slice xa' q.length xc') W2 := q1.below hrb (by omega) (by simp only; omega)
                        refine ⟨q2, ?_⟩
                        have ab := ab1.below hrb (by omega)
                        have hne : Value.ownBlock (.slice ra L3.st.data.length rc) ≠ some r := fun h => by have := (ownsRow_cells hro h).1; omega
                        have hro2 := hro.mono (base' := wa.heap.size) (by omega)
                        have hk2 : Below wa.heap.size wa W2 := hk1.trans (hrb.mono (by omega))
                        refine wpAnyD_take (i := 6) (v := .tuple #[.agg #[.slice ra L3.st.data.length rc, .int .i64 L3.st.power, .int .i64 L3.count, .bool L3.down], .int .i64 ac]) rfl (by kernel_rfl) (by kernel_rfl) (by kernel_rfl) (by kernel_rfl) (by kernel_rfl) (fun _ _ _ h => h) (.inl ⟨by kernel_rfl, fun W' hS => by go_simp⟩) q2 ?_
                        refine wpAnyD_take (i := 7) (v := .agg #[.slice ra L3.st.data.length rc, .int .i64 L3.st.power, .int .i64 L3.count, .bool L3.down]) rfl (by kernel_rfl) (by kernel_rfl) (by kernel_rfl) (by kernel_rfl) (by kernel_rfl) (fun _ _ _ h => h) (.inl ⟨by kernel_rfl, fun W' hS => by go_simp⟩) q2 ?_
                        refine wpAnyD_take (i := 8) (v := .int .i64 ac) rfl (by kernel_rfl) (by kernel_rfl) (by kernel_rfl) (by kernel_rfl) (by kernel_rfl) (fun _ _ _ h => h) (.inl ⟨by kernel_rfl, fun W' hS => by go_simp⟩) q2 ?_
                        obtain ⟨e0, e1, e2, e3, g0, g1, g2, g3⟩ := ab.four
                        refine wpAnyD_one (i := 10) (by kernel_rfl) rfl (by kernel_rfl) ?_
                        go_simp
                        obtain ⟨W3, hW3, ab3, hp3, hv3, hz3⟩ := put4 ab (.slice ra L3.st.data.length rc) (.int .i64 L3.st.power) (.int .i64 L3.count) (.bool L3.down)
                        rw [hW3]
                        have q3 : SC b6 #[.slice a6 L2.st.data.length c6, .int .i64 L2.st.power, .int .i64 L2.count, .bool false] 32 ⟨qb, qo + k, none⟩ (.slice xa' q.length xc') W3 := q2.below hp3 (by omega) (by simp only; omega)
                        refine ⟨q3, ?_⟩
                        refine wpAnyD_one (i := 11) (by kernel_rfl) rfl (by kernel_rfl) ?_
                        go_simp
                        have hby := hro2.keptO4 hne hW3
                        refine wpAnyD_done (by kernel_rfl) ?_ _
                        go_wp2_with fail
                        go_meet
                        exact ⟨r, ra, rc, rfl, rfl, hrr, ab3, hby, hne, hk2.trans (hp3.mono hrr)⟩
                    case rest =>
                      obtain ⟨wb, rfl⟩ : ∃ X : World, X = wc := ⟨_, rfl⟩
                      obtain ⟨r21, ma, mc, rfl, rfl, hr21, ab21, ob21, hn21, hbx⟩ := hcut
                      have hts4 := hts3.below hbx
                      have ab19' := ab19.below hbx ab19.lt
                      have ob19' := ob19.below hbx (Nat.le_refl _)
                      have hsz4 := hbx.size
                      have hl19 := ab19'.lt
                      have hl21 := ab21.lt
                      clear hts3 hqc1 hbx ab19 ob19 hb6f
                      go_upto_region 25 with fail
                      refine region_plain (S2 r19 #[.slice ra L3.st.data.length rc, .int .i64 L3.st.power, .int .i64 L3.count, .bool L3.down] 29 r21 #[.slice ma L3.st.data.length mc, .int .i64 L3.st.power, .int .i64 L3.count, .bool L3.down] 32) [] (by kernel_rfl) ?_
                      have q0 : S2 r19 #[.slice ra L3.st.data.length rc, .int .i64 L3.st.power, .int .i64 L3.count, .bool L3.down] 29 r21 #[.slice ma L3.st.data.length mc, .int .i64 L3.st.power, .int .i64 L3.count, .bool L3.down] 32 wb.drew := ⟨ab19', ab21⟩
                      refine wpAnyD_take (i := 0) (v := .int .i64 ac) rfl (by kernel_rfl) (by kernel_rfl) (by kernel_rfl) (by kernel_rfl) (by kernel_rfl) (fun _ _ _ h => h) (.inl ⟨by kernel_rfl, fun W' hS => by go_simp⟩) q0 ?_
                      refine wpAnyD_take (i := 1) (v := .int .i64 ac) rfl (by kernel_rfl) (by kernel_rfl) (by kernel_rfl) (by kernel_rfl) (by kernel_rfl) (fun _ _ _ h => h) (.inl ⟨by kernel_rfl, fun W' hS => by go_simp⟩) q0 ?_
                      refine wpAnyD_take (i := 2) (v := .bool false) rfl (by kernel_rfl) (by kernel_rfl) (by kernel_rfl) (by kernel_rfl) (by kernel_rfl) (fun _ _ _ h => h) (.inl ⟨by kernel_rfl, fun W' hS => by go_simp⟩) q0 ?_
                      refine wpAnyD_take (i := 3) (v := .bool false) rfl (by kernel_rfl) (by kernel_rfl) (by kernel_rfl) (by kernel_rfl) (by kernel_rfl) (fun _ _ _ h => h) (.inl ⟨by kernel_rfl, fun W' hS => by go_simp⟩) q0 ?_
                      refine wpAnyD_take (i := 4) (v := .agg #[.slice ra L3.st.data.length rc, .int .i64 L3.st.power, .int .i64 L3.count, .bool L3.down]) rfl (by kernel_rfl) (by kernel_rfl) (by kernel_rfl) (by kernel_rfl) (by kernel_rfl) (fun _ _ _ h => h) (.inl ⟨by kernel_rfl, fun W' hS => by obtain ⟨c0, c1, c2, c3, f0, f1, f2, f3⟩ := hS.1.four; go_simp⟩) q0 ?_
                      refine wpAnyD_take (i := 6) (v := .agg #[.slice ma L3.st.data.length mc, .int .i64 L3.st.power, .int .i64 L3.count, .bool L3.down]) rfl (by kernel_rfl) (by kernel_rfl) (by kernel_rfl) (by kernel_rfl) (by kernel_rfl) (fun _ _ _ h => h) (.inl ⟨by kernel_rfl, fun W' hS => by obtain ⟨c0, c1, c2, c3, f0, f1, f2, f3⟩ := hS.2.four; go_simp⟩) q0 ?_
                      obtain ⟨W0, hW0⟩ : ∃ X, wb.drew = X := ⟨_, rfl⟩
                      have hk0 : Below wb.heap.size wb W0 := hW0 ▸ (Below.refl _ wb).drew
                      rw [hW0] at q0 ⊢
                      clear hW0
                      have hsz0 := hk0.size
                      refine wpAnyD_one (i := 5) (by kernel_rfl) rfl (by kernel_rfl) ?_
                      go_simp
                      refine (plain_any _ _ _ _ _ _ W0).mono ?_
                      rintro e W7 ⟨rfl, hb1⟩
                      have q1 : S2 r19 #[.slice ra L3.st.data.length rc, .int .i64 L3.st.power, .int .i64 L3.count, .bool L3.down] 29 r21 #[.slice ma L3.st.data.length mc, .int .i64 L3.st.power, .int .i64 L3.count, .bool L3.down] 32 W7 := q0.below hb1 (by omega) (by omega)
                      have hk1 : Below wb.heap.size wb W7 := hk0.trans (hb1.mono hsz0)
                      have hsz1 := hk1.size
                      refine ⟨q1, ?_⟩
                      refine wpAnyD_one (i := 7) (by kernel_rfl) rfl (by kernel_rfl) ?_
                      go_simp
                      refine (sameLog_same wb.heap.size _ _ L3 W7 (ob19'.byts.below hk1 (Nat.le_refl _)) (ob21.byts.below hk1 (Nat.le_refl _)) (by omega)).mono ?_
                      rintro e W8 ⟨rfl, hb2⟩
                      have q2 : S2 r19 #[.slice ra L3.st.data.length rc, .int .i64 L3.st.power, .int .i64 L3.count, .bool L3.down] 29 r21 #[.slice ma L3.st.data.length mc, .int .i64 L3.st.power, .int .i64 L3.count, .bool L3.down] 32 W8 := q1.below hb2 (by omega) (by omega)
                      have hk2 : Below wb.heap.size wb W8 := hk1.trans (hb2.mono (by omega))
                      refine ⟨q2, ?_⟩
                      refine wpAnyD_take (i := 8) (v := .bool false) rfl (by kernel_rfl) (by kernel_rfl) (by kernel_rfl) (by kernel_rfl) (by kernel_rfl) (fun _ _ _ h => h) (.inl ⟨by kernel_rfl, fun W' hS => by go_simp⟩) q2 ?_
                      refine wpAnyD_take (i := 9) (v := .bool false) rfl (by kernel_rfl) (by kernel_rfl) (by kernel_rfl) (by kernel_rfl) (by kernel_rfl) (fun _ _ _ h => h) (.inl ⟨by kernel_rfl, fun W' hS => by go_simp⟩) q2 ?_
                      refine wpAnyD_done (by kernel_rfl) ?_ _
                      have hts9 := hts4.below hk2
                      have hq9 := ab19'.below hk2 hl19
                      have hx9 := ab21.below hk2 hl21
                      have hmo9 := (ob19'.below hk2 (Nat.le_refl _)).mono (base' := b6 + 1) (by omega)
                      have hxo9 := (ob21.below hk2 (Nat.le_refl _)).mono (base' := b6 + 1) (by omega)
                      clear hts4 ab19' ab21 ob19' ob21 q0 q1 q2 hk0 hk1 hk2 hb1 hb2 hsz0 hsz1
                      go_upto_region 27 with fail
                      refine region_plain (S2 r19 #[.slice ra L3.st.data.length rc, .int .i64 L3.st.power, .int .i64 L3.count, .bool L3.down] 29 r21 #[.slice ma L3.st.data.length mc, .int .i64 L3.st.power, .int .i64 L3.count, .bool L3.down] 32) [] (by kernel_rfl) ?_
                      have q0 : S2 r19 #[.slice ra L3.st.data.length rc, .int .i64 L3.st.power, .int .i64 L3.count, .bool L3.down] 29 r21 #[.slice ma L3.st.data.length mc, .int .i64 L3.st.power, .int .i64 L3.count, .bool L3.down] 32 W8.drew := ⟨hq9, hx9⟩
                      refine wpAnyD_take (i := 0) (v := .agg #[.slice ra L3.st.data.length rc, .int .i64 L3.st.power, .int .i64 L3.count, .bool L3.down]) rfl (by kernel_rfl) (by kernel_rfl) (by kernel_rfl) (by kernel_rfl) (by kernel_rfl) (fun _ _ _ h => h) (.inl ⟨by kernel_rfl, fun W' hS => by obtain ⟨c0, c1, c2, c3, f0, f1, f2, f3⟩ := hS.1.four; go_simp⟩) q0 ?_
                      refine wpAnyD_take (i := 1) (v := .agg #[.slice ma L3.st.data.length mc, .int .i64 L3.st.power, .int .i64 L3.count, .bool L3.down]) rfl (by kernel_rfl) (by kernel_rfl) (by kernel_rfl) (by kernel_rfl) (by kernel_rfl) (fun _ _ _ h => h) (.inl ⟨by kernel_rfl, fun W' hS => by obtain ⟨c0, c1, c2, c3, f0, f1, f2, f3⟩ := hS.2.four; go_simp⟩) q0 ?_
                      obtain ⟨W0, hW0⟩ : ∃ X, W8.drew = X := ⟨_, rfl⟩
                      have hk0 : Below W8.heap.size W8 W0 := hW0 ▸ (Below.refl _ W8).drew
                      rw [hW0] at q0 ⊢
                      clear hW0
                      have hts0 := hts9.below hk0
                      have o12 := (hmo9.below hk0 (Nat.le_refl _)).mono (base' := b6 + 1) (Nat.le_refl _)
                      have o15 := (hxo9.below hk0 (Nat.le_refl _)).mono (base' := b6 + 1) (Nat.le_refl _)
                      have hlt56 := hts0.lt
                      have hr12b : b6 < r19 := by omega
                      have hr15b : b6 < r21 := by omega
                      obtain ⟨c0, c1, c2, c3, f0, f1, f2, f3⟩ := hts0.box5.four
                      refine wpAnyD_one (i := 2) (by kernel_rfl) rfl (by kernel_rfl) ?_
                      go_simp
                      have hp5 := hts0.put5 o12
                      obtain ⟨W1, hW1, _, _, ha1, _⟩ := put4 hts0.box5 (.slice ra L3.st.data.length rc) (.int .i64 L3.st.power) (.int .i64 L3.count) (.bool L3.down)
                      rw [hW1] at hp5 ⊢
                      have q1 : S2 r19 #[.slice ra L3.st.data.length rc, .int .i64 L3.st.power, .int .i64 L3.count, .bool L3.down] 29 r21 #[.slice ma L3.st.data.length mc, .int .i64 L3.st.power, .int .i64 L3.count, .bool L3.down] 32 W1 := ⟨q0.1.above ha1 (by omega), q0.2.above ha1 (by omega)⟩
                      have o15' := o15.above ha1 (by omega)
                      clear hW1 c0 c1 c2 c3 f0 f1 f2 f3
                      refine ⟨q1, ?_⟩
                      obtain ⟨c0, c1, c2, c3, f0, f1, f2, f3⟩ := hp5.box6.four
                      refine wpAnyD_one (i := 3) (by kernel_rfl) rfl (by kernel_rfl) ?_
                      go_simp
                      have hp6 := hp5.put6 o15'
                      obtain ⟨W3, hW3, _, _, ha2, _⟩ := put4 hp5.box6 (.slice ma L3.st.data.length mc) (.int .i64 L3.st.power) (.int .i64 L3.count) (.bool L3.down)
                      rw [hW3] at hp6 ⊢
                      have q2 : S2 r19 #[.slice ra L3.st.data.length rc, .int .i64 L3.st.power, .int .i64 L3.count, .bool L3.down] 29 r21 #[.slice ma L3.st.data.length mc, .int .i64 L3.st.power, .int .i64 L3.count, .bool L3.down] 32 W3 := ⟨q1.1.above ha2 (by omega), q1.2.above ha2 (by omega)⟩
                      refine ⟨q2, ?_⟩
                      refine wpAnyD_done (by kernel_rfl) ?_ _
                      clear hW3 c0 c1 c2 c3 f0 f1 f2 f3 q0 q1 q2 hk0 hts9 hts0 o12 o15 o15' hp5 ha1 ha2 hq9 hx9 hmo9 hxo9
                      go_wp2_with fail
                      go_roundw
                      case rel => exact ⟨k + 1, L3, ra, rc, ma, mc, kept3, by omega, by go_num, by omega, hp6, HI3.out, hpw3⟩
                      case measure => simp [intOf]; omega
              · go_wp2_with fail
                go_roundw
                case rel => exact ⟨i + 1, L2, a5, c5, a6, c6, kept2, by omega, by go_num, by omega, hts2, hinv2, hpw2⟩
                case measure => simp [intOf]; omega
          · have tc : (code == (0 : Int)) = false := by rw [beq_eq_false_iff_ne]; exact hc0
            clear hc0
            obtain ⟨d0, d1, d2, d3, g0, g1, g2, g3⟩ := hts9.box5.four
            by_cases hp0 : 0 < ps.length
            · have hp0' : ¬ ps.length = 0 := by omega
              cases hdn : L.down with
              | true =>
                rw [hdn] at d3
                go_wp2_with fail
                go_rounds 1
                go_roundw
                case rel => exact ⟨i + 1, L, a5, c5, a6, c6, kept, by omega, by go_num, by omega, hts9, HI.out, hpw⟩
                case measure => simp [intOf]; omega
              | false =>
                rw [hdn] at d3
                go_wp2_with fail
                go_rounds 1
                go_roundw
                case rel => exact ⟨i + 1, L, a5, c5, a6, c6, kept, by omega, by go_num, by omega, hts9, HI.out, hpw⟩
                case measure => simp [intOf]; omega
            · go_wp2_with fail
              go_rounds 1
              go_roundw
              case rel => exact ⟨i + 1, L, a5, c5, a6, c6, kept, by omega, by go_num, by omega, hts9, HI.out, hpw⟩
              case measure => simp [intOf]; omega
          · have tc : (oc == (0 : Int)) = false := by rw [beq_eq_false_iff_ne]; exact ho0
            clear ho0
            obtain ⟨d0, d1, d2, d3, g0, g1, g2, g3⟩ := hts9.box5.four
            by_cases hp0 : 0 < ps.length
            · have hp0' : ¬ ps.length = 0 := by omega
              cases hdn : L.down with
              | true =>
                rw [hdn] at d3
                go_wp2_with fail
                go_rounds 1
                go_roundw
                case rel => exact ⟨i + 1, L, a5, c5, a6, c6, kept, by omega, by go_num, by omega, hts9, HI.out, hpw⟩
                case measure => simp [intOf]; omega
              | false =>
                rw [hdn] at d3
                go_wp2_with fail
                go_rounds 1
                go_roundw
                case rel => exact ⟨i + 1, L, a5, c5, a6, c6, kept, by omega, by go_num, by omega, hts9, HI.out, hpw⟩
                case measure => simp [intOf]; omega
            · go_wp2_with fail
              go_rounds 1
              go_roundw
              case rel => exact ⟨i + 1, L, a5, c5, a6, c6, kept, by omega, by go_num, by omega, hts9, HI.out, hpw⟩
              case measure => simp [intOf]; omega
    · go_wp2_with fail
      refine (awake_any _).mono ?_
      rintro e w1 ⟨rfl, hq1⟩
      have hb := hts.bel.trans (hq1.mono hts.bel.size)
      go_wp2_with fail
      go_ret
      exact ⟨rfl, hb⟩
end Go.Proofs.Ytkdlimigepkepaa
