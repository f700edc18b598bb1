/- The reference of layer 37: write. No conditions beyond sizes. -/
import Derived.Test.YtkdlimigepkepaaGreatQ2
import Derived.Deep.CutRange
namespace Go.Proofs.YtkdlimigepkepaaGreat
open Go.RowKit
set_option linter.unusedVariables false

/-- What write computes. -/
def wrS (s : St) (d : List UInt8) : St × Int :=
  if s.power < 0 then (⟨s.data ++ d, s.power⟩, 0)
  else if s.power < d.length then (⟨s.data ++ d.take s.power.toNat, 0⟩, 370)
  else (⟨s.data ++ d, s.power - d.length⟩, 0)

theorem ownB_empty' {base : Nat} (W : World) (h : base ≤ W.heap.size) : OwnB base (W.alloc (.cells #[] 5)) (.slice (some ⟨W.heap.size, 0, none⟩) 0 0) [] :=
  ⟨rfl, .inr ⟨W.heap.size, 0, #[], rfl, h, World.alloc_heap_new W _, Nat.le_refl _, Nat.zero_le _, rfl, rfl⟩⟩

def Bx2 (b : Nat) (cs : Array Value) (W : World) : Prop := Blk W b cs 39

def S9 (b : Nat) (cs : Array Value) (ad : Addr) (x : Int) (W : World) : Prop := Blk W b cs 39 ∧ W.cell? ad = some (.int .u8 x)

set_option maxRecDepth 100000 in
set_option maxHeartbeats 8000000 in
theorem wr_ref (K : Nat) (v vd : Value) (s : St) (d : List UInt8) (w : World) (hv : Byts K w v s.data) (hd : Byts K w vd d) (hK : K ≤ w.heap.size) (hp : s.power ≤ 2 ^ 63 - 1) (hp' : -1 ≤ s.power) (hsz : s.data.length + d.length ≤ 2 ^ 21) :
    Calls Tryz.prog 38 #[.agg #[v, .int .i64 s.power], vd] w fun e w' => ∃ v', e = .returned (.tuple #[.agg #[v', .int .i64 (wrS s d).1.power], .int .i64 (wrS s d).2]) ∧ OwnB w.heap.size w' v' (wrS s d).1.data ∧ Below w.heap.size w w' := by
  obtain ⟨sd, p⟩ := s
  simp only at hv hp hp' hsz ⊢
  obtain ⟨va, cap, rfl, hl1, hl2, _, _⟩ := id hv
  obtain ⟨da, dcap, rfl, hm1, hm2, _, hdc⟩ := id hd
  have hm2' : dcap ≤ 2 ^ 63 - 1 := by unfold maxLen at hm2; omega
  have HV := Lib.hid hv; have HD := Lib.hid hd; have HDC := Lib.hid hdc; have HP := Lib.hid hp; have HP' := Lib.hid hp'
  clear hv hd hdc hl2 hm2 hp hp'
  go_enter Tryz.func38, Tryz.ntmps38
  have hk2 : Below w.heap.size w (((w.alloc (.cells #[.slice va sd.length cap, .int .i64 p] 39)).alloc (.cells #[.slice none 0 0, .int .i64 0] 39)).alloc (.cells #[] 5)) := (((Below.refl _ w).alloc (Nat.le_refl _) _).alloc (by simp) _).alloc (by simp; omega) _
  have hoe := ownB_empty' (base := w.heap.size + 2) ((w.alloc (.cells #[.slice va sd.length cap, .int .i64 p] 39)).alloc (.cells #[.slice none 0 0, .int .i64 0] 39)) (by simp)
  have hsz2 : ((w.alloc (.cells #[.slice va sd.length cap, .int .i64 p] 39)).alloc (.cells #[.slice none 0 0, .int .i64 0] 39)).heap.size = w.heap.size + 2 := by simp
  rw [hsz2] at hoe
  clear hsz2
  have hbe := HV.out.below (hk2.mono hK) (Nat.le_refl _)
  have hsm : ([] : List UInt8).length + sd.length ≤ 2 ^ 46 := by simp; omega
  have q0 : Blk (((w.alloc (.cells #[.slice va sd.length cap, .int .i64 p] 39)).alloc (.cells #[.slice none 0 0, .int .i64 0] 39)).alloc (.cells #[] 5)) w.heap.size #[.slice va sd.length cap, .int .i64 p] 39 := ((Blk.new w _ _).alloc _).alloc _
  have r0 : Blk (((w.alloc (.cells #[.slice va sd.length cap, .int .i64 p] 39)).alloc (.cells #[.slice none 0 0, .int .i64 0] 39)).alloc (.cells #[] 5)) (w.heap.size + 1) #[.slice none 0 0, .int .i64 0] 39 := by
    have := (Blk.new (w.alloc (.cells #[.slice va sd.length cap, .int .i64 p] 39)) #[.slice none 0 0, .int .i64 0] 39).alloc (.cells #[] 5)
    rw [World.size_alloc] at this
    exact this
  have hse : w.heap.size + 2 ≤ (((w.alloc (.cells #[.slice va sd.length cap, .int .i64 p] 39)).alloc (.cells #[.slice none 0 0, .int .i64 0] 39)).alloc (.cells #[] 5)).heap.size := by simp
  go_wp2_with (at_builtin; refine wpList_append_B rfl (.tmp 7) (.tmp 9) rfl rfl rfl hoe hbe hsm hse ?_; intro v1 w1 ho1 hg1 hat1; have hg1 : World.grownBy _ w1 (Value.slice (some ⟨w.heap.size + 2, 0, none⟩) 0 0).ownBlock := hg1; have hne1 : ∀ b, b < w.heap.size + 2 → some b ≠ (Value.slice (some ⟨w.heap.size + 2, 0, none⟩) 0 0).ownBlock := fun b hb e => (by simp [Value.ownBlock] at e; omega); have q1 := q0.kept hg1 (hne1 _ (by omega)); have r1 := r0.kept hg1 (hne1 _ (by omega)); obtain ⟨e0, e1, f0, f1⟩ := q1.two; obtain ⟨ra, rn, rc, rfl⟩ := ownBlock_of_OwnB ho1)
  have hs1 := hg1.size
  have hs1' : w.heap.size + 2 ≤ w1.heap.size := by simp at hs1; omega
  have hb1 : Below w.heap.size w w1 := hk2.trans (below_of_grown hg1 (fun r hr => by simp [Value.ownBlock] at hr; omega) (by simp; omega))
  obtain ⟨xa0, xc0, hx0, _⟩ := ho1.byts
  simp only [List.nil_append] at ho1 hx0
  simp only [Value.slice.injEq] at hx0
  obtain ⟨rfl, rfl, rfl, _⟩ := hx0
  have hset : OwnB (w.heap.size + 2) (w1.setCell ⟨w.heap.size, 0, none⟩ (.slice ra sd.length rc)) (.slice ra sd.length rc) sd := ho1.setBelow (by omega) _
  have hqs := q1.set (i := 0) (.slice ra sd.length rc)
  have hrs := r1.other (b' := w.heap.size) (i := 0) (by omega) (.slice ra sd.length rc)
  have hbs : Below w.heap.size w (w1.setCell ⟨w.heap.size, 0, none⟩ (.slice ra sd.length rc)) := hb1.setCell (Nat.le_refl _) _
  have hss : w.heap.size + 2 ≤ (w1.setCell ⟨w.heap.size, 0, none⟩ (.slice ra sd.length rc)).heap.size := by simp; omega
  clear q1 r1 ho1 hb1 q0 r0 hoe hbe hk2 hse hne1 hg1 hat1 hs1 hs1' e0 e1 f0 f1
  go_loopw [6] (fun s6 wr => ∃ (k : Nat) (xa : Option Addr) (xc : Nat), k ≤ d.length ∧ s6 = .int .i64 k ∧ Blk wr w.heap.size #[.slice xa (sd.length + k) xc, .int .i64 (if p < 0 then p else p - k)] 39 ∧
      OwnB (w.heap.size + 2) wr (.slice xa (sd.length + k) xc) (sd ++ d.take k) ∧ Blk wr (w.heap.size + 1) #[.slice none 0 0, .int .i64 0] 39 ∧ Below w.heap.size w wr ∧ w.heap.size + 2 ≤ wr.heap.size ∧ (p < 0 ∨ (k : Int) ≤ p)) (fun s6 _ => d.length - (intOf s6).toNat)
  case atStart =>
    refine ⟨0, ra, rc, Nat.zero_le _, rfl, ?_, ?_, hrs, hbs, hss, ?_⟩
    · have : (if p < 0 then p else p - ((0 : Nat) : Int)) = p := by split <;> simp
      rw [this]; exact hqs
    · simpa using hset
    · omega
  case round =>
    obtain ⟨k, xa, xc, hk, rfl, hq, ho, hr, hbl, hsw, hpk⟩ := hrel
    clear hset hqs hrs hbs hss
    by_cases hlt : k < d.length
    · obtain ⟨db, dof, hda, hdK, hdcell⟩ := HDC.out k hlt
      subst hda
      obtain ⟨bv, hbv⟩ : ∃ x, ((d[k]?.getD 0).toNat : Int) = x := ⟨_, rfl⟩
      have hcr : wr.cell? ⟨db, dof + k, none⟩ = some (.int .u8 bv) := by
        rw [← hbv]; exact (hbl.cell (p := ⟨db, dof + k, none⟩) (show db < w.heap.size by omega)).trans hdcell
      have HBV := Lib.hid hbv
      clear hdcell hbv
      by_cases hp : p < 0
      · rw [if_pos hp] at hq
        have t1 : (p == (0 : Int)) = false := by rw [beq_eq_false_iff_ne]; omega
        have t2 : decide ((0 : Int) < p) = false := by simp; omega
        have hqW := hq
        have hcW := hcr
        obtain ⟨e0, e1, f0, f1⟩ := hq.two
        go_upto_region 9 with fail
        refine region_plain (S9 w.heap.size #[.slice xa (sd.length + k) xc, .int .i64 (p)] ⟨db, dof + k, none⟩ bv) [9] (by kernel_rfl) ?_
        have q9 : S9 w.heap.size #[.slice xa (sd.length + k) xc, .int .i64 (p)] ⟨db, dof + k, none⟩ bv (World.drew _) := ⟨hqW, hcW⟩
        refine wpAnyD_take (i := 0) (v := .pointer (some ⟨w.heap.size, 0, none⟩)) rfl (by kernel_rfl) (by kernel_rfl) (by kernel_rfl) (by kernel_rfl) (by kernel_rfl) (fun _ _ _ h => h) (.inl ⟨by kernel_rfl, fun W' hS => by go_simp⟩) q9 ?_
        refine wpAnyD_take (i := 1) (v := .slice xa (sd.length + k) xc) rfl (by kernel_rfl) (by kernel_rfl) (by kernel_rfl) (by kernel_rfl) (by kernel_rfl) (fun _ _ _ h => h) (.inl ⟨by kernel_rfl, fun W' hS => by obtain ⟨c0, c1, f0, f1⟩ := hS.1.two; go_simp⟩) q9 ?_
        refine wpAnyD_take (i := 2) (v := .slice (some ⟨db, dof, none⟩) d.length dcap) rfl (by kernel_rfl) (by kernel_rfl) (by kernel_rfl) (by kernel_rfl) (by kernel_rfl) (fun _ _ _ h => h) (.inl ⟨by kernel_rfl, fun W' hS => by go_simp⟩) q9 ?_
        refine wpAnyD_take (i := 3) (v := .int .i64 k) rfl (by kernel_rfl) (by kernel_rfl) (by kernel_rfl) (by kernel_rfl) (by kernel_rfl) (fun _ _ _ h => h) (.inl ⟨by kernel_rfl, fun W' hS => by go_simp⟩) q9 ?_
        refine wpAnyD_take (i := 4) (v := .pointer (some ⟨db, dof + k, none⟩)) rfl (by kernel_rfl) (by kernel_rfl) (by kernel_rfl) (by kernel_rfl) (by kernel_rfl) (fun _ _ _ h => h) (.inl ⟨by kernel_rfl, fun W' hS => by go_simp⟩) q9 ?_
        refine wpAnyD_take (i := 5) (v := .int .u8 bv) rfl (by kernel_rfl) (by kernel_rfl) (by kernel_rfl) (by kernel_rfl) (by kernel_rfl) (fun _ _ _ h => h) (.inl ⟨by kernel_rfl, fun W' hS => by have h2 := hS.2; go_simp⟩) q9 ?_
        obtain ⟨W0, hW0⟩ : ∃ X, wr.drew = X := ⟨_, rfl⟩
        have ho0 : OwnB (w.heap.size + 2) wr.drew (.slice xa (sd.length + k) xc) (sd ++ d.take k) := ho
        have hr0 : Blk wr.drew (w.heap.size + 1) #[.slice none 0 0, .int .i64 0] 39 := hr
        have hbl0 : Below w.heap.size w wr.drew := hbl.drew
        have hsw0 : w.heap.size + 2 ≤ wr.drew.heap.size := hsw
        rw [hW0] at q9 ho0 hr0 hbl0 hsw0 ⊢
        clear hW0 hq ho hr hbl hsw hcr hqW hcW e0 e1 f0 f1
        refine wpAnyD_one (i := 6) (by kernel_rfl) rfl (by kernel_rfl) ?_
        go_simp
        have q10 : S9 w.heap.size #[.slice xa (sd.length + k) xc, .int .i64 (p)] ⟨db, dof + k, none⟩ bv (W0.alloc (.cells #[.int .u8 bv] 5)) := ⟨q9.1.alloc _, ((Below.refl _ W0).alloc (Nat.le_refl _) (.cells #[.int .u8 bv] 5)).cell (p := ⟨db, dof + k, none⟩) (show db < W0.heap.size by omega) |>.trans q9.2⟩
        refine ⟨q10, ?_⟩
        have hone := Byts.one W0 bv 5 (d[k]?.getD 0) HBV.out.symm
        have hsm1 : (sd ++ d.take k).length + [d[k]?.getD 0].length ≤ 2 ^ 46 := by simp; omega
        refine wpAnyD_one (i := 7) (by kernel_rfl) rfl (by kernel_rfl) ?_
        refine wp_append_B (.tmp 30) (.tmp 35) rfl rfl rfl (ho0.alloc _) hone hsm1 (by simp; omega) ?_
        intro v2 w2 ho2 hg2 hat2
        have hg2 : World.grownBy _ w2 (Value.slice xa (sd.length + k) xc).ownBlock := hg2
        have hnb : ∀ b, b < w.heap.size + 2 → some b ≠ (Value.slice xa (sd.length + k) xc).ownBlock := fun b hb e => by have := (ownsRow_cells ho0 e.symm).1; omega
        have q11 : S9 w.heap.size #[.slice xa (sd.length + k) xc, .int .i64 (p)] ⟨db, dof + k, none⟩ bv w2 := ⟨q10.1.kept hg2 (hnb _ (by omega)), (World.cell?_of_block (hg2.block db (by simp; omega) (hnb _ (by omega)))).trans q10.2⟩
        refine ⟨fun _ => q11, ?_⟩
        have hr2 := (hr0.alloc (.cells #[.int .u8 bv] 5)).kept hg2 (hnb _ (by omega))
        have hbl2 : Below w.heap.size w w2 := (hbl0.alloc (by omega) _).trans (below_of_grown hg2 (fun r hr => by have := (ownsRow_cells ho0 hr).1; omega) (by simp; omega))
        have hsw2 : w.heap.size + 2 ≤ w2.heap.size := by have := hg2.size; simp at this; omega
        have hdk : d.take (k + 1) = d.take k ++ [d[k]?.getD 0] := by rw [List.take_succ_eq_append_getElem hlt]; simp [hlt]
        rw [List.append_assoc, ← hdk] at ho2
        obtain ⟨xa2, xc2, hx2, _⟩ := ho2.byts
        have hl2' : (sd ++ d.take (k + 1)).length = sd.length + (k + 1) := by simp; omega
        rw [hl2'] at hx2
        subst hx2
        refine wpAnyD_take (i := 8) (v := .pointer (some ⟨w.heap.size, 0, none⟩)) rfl (by kernel_rfl) (by kernel_rfl) (by kernel_rfl) (by kernel_rfl) (by kernel_rfl) (fun _ _ _ h => h) (.inl ⟨by kernel_rfl, fun W' hS => by go_simp⟩) q11 ?_
        obtain ⟨c0, c1, f0, f1⟩ := q11.1.two
        refine wpAnyD_one (i := 9) (by kernel_rfl) rfl (by kernel_rfl) ?_
        go_simp
        refine wpAnyD_done (by kernel_rfl) ?_ _
        have hfin : Blk (w2.setCell ⟨w.heap.size, 0, none⟩ (.slice xa2 (sd.length + (k + 1)) xc2)) w.heap.size #[.slice xa2 (sd.length + (k + 1)) xc2, .int .i64 p] 39 := q11.1.set _
        have hofin : OwnB (w.heap.size + 2) (w2.setCell ⟨w.heap.size, 0, none⟩ (.slice xa2 (sd.length + (k + 1)) xc2)) (.slice xa2 (sd.length + (k + 1)) xc2) (sd ++ d.take (k + 1)) := ho2.setBelow (by omega) _
        have hrfin := hr2.other (b' := w.heap.size) (i := 0) (by omega) (.slice xa2 (sd.length + (k + 1)) xc2)
        have hbfin := hbl2.setCell (Nat.le_refl _) (.slice xa2 (sd.length + (k + 1)) xc2) (p := ⟨w.heap.size, 0, none⟩)
        have hsfin : w.heap.size + 2 ≤ (w2.setCell ⟨w.heap.size, 0, none⟩ (.slice xa2 (sd.length + (k + 1)) xc2)).heap.size := by simp; omega
        clear c0 c1 f0 f1 q9 q10 q11 ho0 hr0 hbl0 hsw0 ho2 hr2 hbl2 hsw2 hg2 hat2 hnb hone hsm1
        go_wp2_with fail
        go_roundw
        case rel => exact ⟨k + 1, xa2, xc2, by omega, by go_num, by rw [if_pos hp]; exact hfin, hofin, hrfin, hbfin, hsfin, by omega⟩
        case measure => simp [intOf]; omega
      · rw [if_neg hp] at hq
        obtain ⟨e0, e1, f0, f1⟩ := hq.two
        by_cases hpk0 : p = k
        · have t1 : ((p - (k : Int)) == (0 : Int)) = true := by rw [beq_iff_eq]; omega
          have hw : Hid (wrS ⟨sd, p⟩ d = (⟨sd ++ d.take k, 0⟩, 370)) := by
            unfold Hid wrS; simp only; rw [if_neg hp, if_pos (by omega)]; simp [hpk0]
          obtain ⟨g0, g1, h0, h1⟩ := hr.two
          have hz : Hid (p - (k : Int) = 0) := by unfold Hid; omega
          rw [hz.out] at e1 t1 hq
          have hwl : w.heap.size + 1 < wr.heap.size := by omega
          clear hpk0 hpk
          go_wp2_with fail
          rw [hw.out]
          refine bodyPost_ret (v := .tuple #[.agg #[.slice xa (sd.length + k) xc, .int .i64 0], .int .i64 370]) (by simp [results, Tryz.results38, go_sem, g0, g1]) rfl ⟨_, rfl, ?_, ?_⟩
          · exact OwnB.mono (ho.above (B := w.heap.size + 2) (((Above.refl _ wr).set (by omega) _ _).set (by omega) _ _) (Nat.le_refl _)) (by omega)
          · exact (hbl.setCell (by simp) _).setCell (by simp) _
        · have t1 : ((p - (k : Int)) == (0 : Int)) = false := by rw [beq_eq_false_iff_ne]; omega
          have t2 : decide ((0 : Int) < p - (k : Int)) = true := by simp; omega
          have hqW := hq.set (i := 1) (.int .i64 (p - k - 1))
          have hcW := (Below.cell (B := db + 1) (by exact (Below.refl _ wr).setCell (show db + 1 ≤ w.heap.size by omega) (.int .i64 (p - k - 1)) (p := ⟨w.heap.size, 1, none⟩)) (p := ⟨db, dof + k, none⟩) (Nat.lt_succ_self _)).trans hcr
          have ho := ho.setBelow (b := w.heap.size) (i := 1) (by omega) (.int .i64 (p - k - 1))
          have hr := hr.other (b' := w.heap.size) (i := 1) (by omega) (.int .i64 (p - k - 1))
          have hbl := hbl.setCell (p := ⟨w.heap.size, 1, none⟩) (Nat.le_refl _) (.int .i64 (p - k - 1))
          have hsw : w.heap.size + 2 ≤ (wr.setCell ⟨w.heap.size, 1, none⟩ (.int .i64 (p - k - 1))).heap.size := by simp; omega
          have hwp : IntKind.i64.wrap (p - (k : Int) - 1) = p - (k : Int) - 1 := IntWalk.i64_in _ (by have := HP.out; omega)
          go_upto_region 9 with fail
          obtain ⟨Wp, hWp⟩ : ∃ X, wr.setCell ⟨w.heap.size, 1, none⟩ (.int .i64 (p - k - 1)) = X := ⟨_, rfl⟩
          rw [hWp] at hqW hcW ho hr hbl hsw ⊢
          clear hWp hwp
          have hqW : Blk Wp w.heap.size #[.slice xa (sd.length + k) xc, .int .i64 (p - k - 1)] 39 := hqW
          refine region_plain (S9 w.heap.size #[.slice xa (sd.length + k) xc, .int .i64 (p - k - 1)] ⟨db, dof + k, none⟩ bv) [9] (by kernel_rfl) ?_
          have q9 : S9 w.heap.size #[.slice xa (sd.length + k) xc, .int .i64 (p - k - 1)] ⟨db, dof + k, none⟩ bv (World.drew _) := ⟨hqW, hcW⟩
          refine wpAnyD_take (i := 0) (v := .pointer (some ⟨w.heap.size, 0, none⟩)) rfl (by kernel_rfl) (by kernel_rfl) (by kernel_rfl) (by kernel_rfl) (by kernel_rfl) (fun _ _ _ h => h) (.inl ⟨by kernel_rfl, fun W' hS => by go_simp⟩) q9 ?_
          refine wpAnyD_take (i := 1) (v := .slice xa (sd.length + k) xc) rfl (by kernel_rfl) (by kernel_rfl) (by kernel_rfl) (by kernel_rfl) (by kernel_rfl) (fun _ _ _ h => h) (.inl ⟨by kernel_rfl, fun W' hS => by obtain ⟨c0, c1, f0, f1⟩ := hS.1.two; go_simp⟩) q9 ?_
          refine wpAnyD_take (i := 2) (v := .slice (some ⟨db, dof, none⟩) d.length dcap) rfl (by kernel_rfl) (by kernel_rfl) (by kernel_rfl) (by kernel_rfl) (by kernel_rfl) (fun _ _ _ h => h) (.inl ⟨by kernel_rfl, fun W' hS => by go_simp⟩) q9 ?_
          refine wpAnyD_take (i := 3) (v := .int .i64 k) rfl (by kernel_rfl) (by kernel_rfl) (by kernel_rfl) (by kernel_rfl) (by kernel_rfl) (fun _ _ _ h => h) (.inl ⟨by kernel_rfl, fun W' hS => by go_simp⟩) q9 ?_
          refine wpAnyD_take (i := 4) (v := .pointer (some ⟨db, dof + k, none⟩)) rfl (by kernel_rfl) (by kernel_rfl) (by kernel_rfl) (by kernel_rfl) (by kernel_rfl) (fun _ _ _ h => h) (.inl ⟨by kernel_rfl, fun W' hS => by go_simp⟩) q9 ?_
          refine wpAnyD_take (i := 5) (v := .int .u8 bv) rfl (by kernel_rfl) (by kernel_rfl) (by kernel_rfl) (by kernel_rfl) (by kernel_rfl) (fun _ _ _ h => h) (.inl ⟨by kernel_rfl, fun W' hS => by have h2 := hS.2; go_simp⟩) q9 ?_
          obtain ⟨W0, hW0⟩ : ∃ X, Wp.drew = X := ⟨_, rfl⟩
          have ho0 : OwnB (w.heap.size + 2) Wp.drew (.slice xa (sd.length + k) xc) (sd ++ d.take k) := ho
          have hr0 : Blk Wp.drew (w.heap.size + 1) #[.slice none 0 0, .int .i64 0] 39 := hr
          have hbl0 : Below w.heap.size w Wp.drew := hbl.drew
          have hsw0 : w.heap.size + 2 ≤ Wp.drew.heap.size := hsw
          rw [hW0] at q9 ho0 hr0 hbl0 hsw0 ⊢
          clear hW0 hq ho hr hbl hsw hcr hqW hcW e0 e1 f0 f1
          refine wpAnyD_one (i := 6) (by kernel_rfl) rfl (by kernel_rfl) ?_
          go_simp
          have q10 : S9 w.heap.size #[.slice xa (sd.length + k) xc, .int .i64 (p - k - 1)] ⟨db, dof + k, none⟩ bv (W0.alloc (.cells #[.int .u8 bv] 5)) := ⟨q9.1.alloc _, ((Below.refl _ W0).alloc (Nat.le_refl _) (.cells #[.int .u8 bv] 5)).cell (p := ⟨db, dof + k, none⟩) (show db < W0.heap.size by omega) |>.trans q9.2⟩
          refine ⟨q10, ?_⟩
          have hone := Byts.one W0 bv 5 (d[k]?.getD 0) HBV.out.symm
          have hsm1 : (sd ++ d.take k).length + [d[k]?.getD 0].length ≤ 2 ^ 46 := by simp; omega
          refine wpAnyD_one (i := 7) (by kernel_rfl) rfl (by kernel_rfl) ?_
          refine wp_append_B (.tmp 30) (.tmp 35) rfl rfl rfl (ho0.alloc _) hone hsm1 (by simp; omega) ?_
          intro v2 w2 ho2 hg2 hat2
          have hg2 : World.grownBy _ w2 (Value.slice xa (sd.length + k) xc).ownBlock := hg2
          have hnb : ∀ b, b < w.heap.size + 2 → some b ≠ (Value.slice xa (sd.length + k) xc).ownBlock := fun b hb e => by have := (ownsRow_cells ho0 e.symm).1; omega
          have q11 : S9 w.heap.size #[.slice xa (sd.length + k) xc, .int .i64 (p - k - 1)] ⟨db, dof + k, none⟩ bv w2 := ⟨q10.1.kept hg2 (hnb _ (by omega)), (World.cell?_of_block (hg2.block db (by simp; omega) (hnb _ (by omega)))).trans q10.2⟩
          refine ⟨fun _ => q11, ?_⟩
          have hr2 := (hr0.alloc (.cells #[.int .u8 bv] 5)).kept hg2 (hnb _ (by omega))
          have hbl2 : Below w.heap.size w w2 := (hbl0.alloc (by omega) _).trans (below_of_grown hg2 (fun r hr => by have := (ownsRow_cells ho0 hr).1; omega) (by simp; omega))
          have hsw2 : w.heap.size + 2 ≤ w2.heap.size := by have := hg2.size; simp at this; omega
          have hdk : d.take (k + 1) = d.take k ++ [d[k]?.getD 0] := by rw [List.take_succ_eq_append_getElem hlt]; simp [hlt]
          rw [List.append_assoc, ← hdk] at ho2
          obtain ⟨xa2, xc2, hx2, _⟩ := ho2.byts
          have hl2' : (sd ++ d.take (k + 1)).length = sd.length + (k + 1) := by simp; omega
          rw [hl2'] at hx2
          subst hx2
          refine wpAnyD_take (i := 8) (v := .pointer (some ⟨w.heap.size, 0, none⟩)) rfl (by kernel_rfl) (by kernel_rfl) (by kernel_rfl) (by kernel_rfl) (by kernel_rfl) (fun _ _ _ h => h) (.inl ⟨by kernel_rfl, fun W' hS => by go_simp⟩) q11 ?_
          obtain ⟨c0, c1, f0, f1⟩ := q11.1.two
          refine wpAnyD_one (i := 9) (by kernel_rfl) rfl (by kernel_rfl) ?_
          go_simp
          refine wpAnyD_done (by kernel_rfl) ?_ _
          have hfin : Blk (w2.setCell ⟨w.heap.size, 0, none⟩ (.slice xa2 (sd.length + (k + 1)) xc2)) w.heap.size #[.slice xa2 (sd.length + (k + 1)) xc2, .int .i64 (p - k - 1)] 39 := q11.1.set _
          have hofin : OwnB (w.heap.size + 2) (w2.setCell ⟨w.heap.size, 0, none⟩ (.slice xa2 (sd.length + (k + 1)) xc2)) (.slice xa2 (sd.length + (k + 1)) xc2) (sd ++ d.take (k + 1)) := ho2.setBelow (by omega) _
          have hrfin := hr2.other (b' := w.heap.size) (i := 0) (by omega) (.slice xa2 (sd.length + (k + 1)) xc2)
          have hbfin := hbl2.setCell (Nat.le_refl _) (.slice xa2 (sd.length + (k + 1)) xc2) (p := ⟨w.heap.size, 0, none⟩)
          have hsfin : w.heap.size + 2 ≤ (w2.setCell ⟨w.heap.size, 0, none⟩ (.slice xa2 (sd.length + (k + 1)) xc2)).heap.size := by simp; omega
          clear c0 c1 f0 f1 q9 q10 q11 ho0 hr0 hbl0 hsw0 ho2 hr2 hbl2 hsw2 hg2 hat2 hnb hone hsm1
          go_wp2_with fail
          go_roundw
          case rel => exact ⟨k + 1, xa2, xc2, by omega, by go_num, by rw [if_neg hp, show p - ((k + 1 : Nat) : Int) = p - k - 1 by omega]; exact hfin, hofin, hrfin, hbfin, hsfin, by omega⟩
          case measure => simp [intOf]; omega
    · obtain rfl : k = d.length := by omega
      have hw : Hid (wrS ⟨sd, p⟩ d = (⟨sd ++ d, if p < 0 then p else p - d.length⟩, 0)) := by
        unfold Hid wrS; simp only
        by_cases hp : p < 0
        · rw [if_pos hp, if_pos hp]
        · rw [if_neg hp, if_neg (by omega), if_neg hp]
      rw [List.take_length] at ho
      obtain ⟨pw, hpw⟩ : ∃ x, (if p < 0 then p else p - (d.length : Int)) = x := ⟨_, rfl⟩
      rw [hpw] at hq hw
      obtain ⟨e0, e1, f0, f1⟩ := hq.two
      obtain ⟨g0, g1, h0, h1⟩ := hr.two
      have hwl : w.heap.size + 1 < wr.heap.size := by omega
      clear hpw hpk
      go_wp2_with fail
      rw [hw.out]
      refine bodyPost_ret (v := .tuple #[.agg #[.slice xa (sd.length + d.length) xc, .int .i64 pw], .int .i64 0]) (by simp [results, Tryz.results38, go_sem, g0, g1]) rfl ⟨_, rfl, ?_, ?_⟩
      · exact OwnB.mono (ho.above (B := w.heap.size + 2) (((Above.refl _ wr).set (by omega) _ _).set (by omega) _ _) (Nat.le_refl _)) (by omega)
      · exact (hbl.setCell (by simp) _).setCell (by simp) _
end Go.Proofs.YtkdlimigepkepaaGreat
