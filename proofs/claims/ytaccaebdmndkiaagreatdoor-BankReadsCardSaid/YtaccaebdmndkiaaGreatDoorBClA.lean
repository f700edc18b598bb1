/- The readers of lines of ReadAnswer: the closures. No conditions beyond those stated. -/
import Derived.Test.YtaccaebdmndkiaaGreatDoorBRow
namespace Go.Proofs.YtaccaebdmndkiaaGreatDoor
open Go.RowKit
set_option linter.unusedVariables false

abbrev StA (base fb cb : Nat) (hd : List Int) (rs : List (List Int)) (W : World) : Prop := FSt base 49 2 30 fb [cb] hd rs W
theorem Tryz.infoKA : (Tryz.prog.info? 49).map (fun i => (i.zero, i.size, i.bytes)) = some (some (.agg #[.int .i64 0, .int .i64 0]), 2, 8 * 2) := by kernel_rfl
theorem neA : 30 ≠ 49 := by decide
theorem neiA : 3 ≠ 49 := by decide
theorem nepA : 85 ≠ 49 := by decide

set_option maxRecDepth 100000 in
set_option maxHeartbeats 1000000 in
theorem headA_any (base PB fb cb : Nat) (x : ByteArray) (W : World) (hx : x.size ≤ 2 ^ 30) (h : StA base fb cb [] [] W) (hM : MaxI base W) (hfb : base ≤ fb ∧ fb < PB) (hcb : base ≤ cb ∧ cb < PB) (n1 : fb ≠ cb) (hPB : PB ≤ W.heap.size) (hbase : base ≤ PB) :
    Calls Tryz.prog 45 #[.string x, .pointer (some ⟨fb, 0, none⟩), .pointer (some ⟨cb, 0, none⟩)] W fun e W' => e = .returned (.bool (rowOf wBACK 3 x.data.toList).isSome) ∧ (∀ r, rowOf wBACK 3 x.data.toList = some r → StA base fb cb r [] W') ∧ Below base W W' ∧ Kx PB 49 W W' := by
  have hq := Blk.new W #[.pointer (some ⟨fb, 0, none⟩), .pointer (some ⟨fb, 1, none⟩), .pointer (some ⟨cb, 0, none⟩)] 85
  have hb1 : Below W.heap.size W (W.alloc (.cells #[.pointer (some ⟨fb, 0, none⟩), .pointer (some ⟨fb, 1, none⟩), .pointer (some ⟨cb, 0, none⟩)] 85)) := (Below.refl _ W).alloc (Nat.le_refl _) _
  have hcs : ∀ x ∈ [cb], base ≤ x ∧ x < PB := by intro y hy; simp only [List.mem_cons, List.not_mem_nil, or_false] at hy; subst hy <;> assumption
  have hnd : ∀ i j, i < [cb].length → j < [cb].length → [cb][i]?.getD 0 = [cb][j]?.getD 0 → i = j := by
    intro i j hi hj he
    simp only [List.length_cons, List.length_nil] at hi hj
    omega
  have hnf : ∀ x ∈ [cb], x ≠ fb := by intro y hy; simp only [List.mem_cons, List.not_mem_nil, or_false] at hy; subst hy <;> omega
  have hpl := headPlaces (base := base) (T := 49) (c := 2) (tS := 30) (W0 := W.alloc (.cells #[.pointer (some ⟨fb, 0, none⟩), .pointer (some ⟨fb, 1, none⟩), .pointer (some ⟨cb, 0, none⟩)] 85)) (b := W.heap.size) neA neiA hfb.2 (fun x hx => (hcs x hx).2) hnf hnd hPB
  have hcall := numbers_any _ x ⟨#[66, 65, 67, 75]⟩ (headPs fb [cb]) 85 W.heap.size base (W.alloc (.cells #[.pointer (some ⟨fb, 0, none⟩), .pointer (some ⟨fb, 1, none⟩), .pointer (some ⟨cb, 0, none⟩)] 85)) hx hq hpl (fun W' hb => ⟨(h.sx ((Sx.below hb1 (Nat.le_refl _)).trans (Sx.below (PB := PB) hb (Nat.le_refl _))) hfb.2 (fun x hx => (hcs x hx).2)), Kx.below hb (Nat.le_refl _)⟩) (by simp [headPs]) (by
    intro p hp
    simp only [headPs, List.mem_cons, List.mem_map] at hp
    rcases hp with rfl | rfl | ⟨y, hy, rfl⟩
    · exact hfb.1
    · exact hfb.1
    · exact (hcs y (by simpa using hy)).1) (by simp; omega) (hM.up (hb1.mono (by omega)) (by simp; omega))
  have hw : (⟨#[66, 65, 67, 75]⟩ : ByteArray).data.toList = wBACK := rfl
  rw [hw] at hcall
  have hlen : (headPs fb [cb]).length = 3 := rfl
  rw [hlen] at hcall
  clear hpl hq hcs hnd hnf hw hlen
  go_enter Tryz.func45, Tryz.ntmps45
  go_wp2_with fail
  refine hcall.mono ?_
  unfold NumsEnd
  rintro e W' ⟨rfl, ⟨ns, -, hkx⟩, hok, hbw⟩
  have HOK := Lib.hid hok
  clear hok
  go_wp2_with fail
  go_ret
  exact ⟨rfl, fun r hr => (HOK.out r hr).1, (hb1.mono (by omega)).trans hbw, (Kx.below hb1 (Nat.le_refl _)).trans hkx⟩

set_option maxRecDepth 100000 in
set_option maxHeartbeats 1000000 in
theorem itemA_any (base PB fb cb : Nat) (hd : List Int) (rs : List (List Int)) (x : ByteArray) (W : World) (hx : x.size ≤ 2 ^ 30) (h : StA base fb cb hd rs W) (hl : rs.length ≤ 3000000) (hM : MaxI base W) (hfb : base ≤ fb ∧ fb < PB) (hcb : base ≤ cb ∧ cb < PB) (n1 : fb ≠ cb) (hPB : PB ≤ W.heap.size) (hbase : base ≤ PB) :
    Calls Tryz.prog 46 #[.string x, .pointer (some ⟨fb, 0, none⟩)] W fun e W' => e = .returned (.bool (rowOf wReturn 2 x.data.toList).isSome) ∧ (∀ r, rowOf wReturn 2 x.data.toList = some r → StA base fb cb hd (rs ++ [r]) W') ∧ Below base W W' ∧ Kx PB 49 W W' := by
  have hq0 := Blk.new W #[.int .i64 0, .int .i64 0] 49
  have hb0 : Below W.heap.size W (W.alloc (.cells #[.int .i64 0, .int .i64 0] 49)) := (Below.refl _ W).alloc (Nat.le_refl _) _
  obtain ⟨W0, hW0⟩ : ∃ W0, W.alloc (.cells #[.int .i64 0, .int .i64 0] 49) = W0 := ⟨_, rfl⟩
  have hz0 : W0.heap.size = W.heap.size + 1 := by rw [← hW0]; simp
  rw [hW0] at hq0 hb0
  have hq1 := Blk.new W0 #[.pointer (some ⟨W.heap.size, 0, none⟩), .pointer (some ⟨W.heap.size, 1, none⟩)] 85
  have hb1 : Below W0.heap.size W0 (W0.alloc (.cells #[.pointer (some ⟨W.heap.size, 0, none⟩), .pointer (some ⟨W.heap.size, 1, none⟩)] 85)) := (Below.refl _ W0).alloc (Nat.le_refl _) _
  have hpl := itemPlaces (T := 49) (c := 2) (ob := W.heap.size) (b := W0.heap.size) (W0 := W) (by omega) (Nat.le_refl _)
  have hb01 : Below W.heap.size W (W0.alloc (.cells #[.pointer (some ⟨W.heap.size, 0, none⟩), .pointer (some ⟨W.heap.size, 1, none⟩)] 85)) := hb0.trans (hb1.mono (by omega))
  have hcall := numbers_any _ x ⟨#[114, 101, 116, 117, 114, 110]⟩ (itemPs W.heap.size 2) 85 W0.heap.size base (W0.alloc (.cells #[.pointer (some ⟨W.heap.size, 0, none⟩), .pointer (some ⟨W.heap.size, 1, none⟩)] 85)) hx hq1 hpl (fun W' hb => ⟨(hq0.below (hb1.trans (hb.mono (by simp <;> omega))) (by omega)), hb01.trans (hb.mono (by simp <;> omega))⟩) (by simp [itemPs]) (by
    intro p hp
    simp only [itemPs, List.mem_map] at hp
    obtain ⟨j, _, rfl⟩ := hp
    show base ≤ W.heap.size
    omega) (by simp <;> omega) (hM.up (hb01.mono (by omega)) (by simp <;> omega))
  have hw : (⟨#[114, 101, 116, 117, 114, 110]⟩ : ByteArray).data.toList = wReturn := rfl
  rw [hw] at hcall
  have hlen : (itemPs W.heap.size 2).length = 2 := rfl
  rw [hlen] at hcall
  rw [hz0] at hcall
  have HW0 := Lib.hid hW0
  have HZ0 := Lib.hid hz0
  clear hpl hq1 hw hlen hW0 hz0
  go_enter Tryz.func46, Tryz.ntmps46
  go_wp2_with fail
  rw [HW0.out]
  refine hcall.mono ?_
  unfold NumsEnd
  rintro e W' ⟨rfl, ⟨ns, hns, hnb⟩, hok, hbw⟩
  have hsame : ∀ r, rowOf wReturn 2 x.data.toList = some r → (rowK 2 ns).toArray = (rowK 2 r).toArray := by
    intro r hr
    have h1 := (hok r hr).1
    unfold Blk at h1 hns
    rw [hns] at h1
    injection h1 with h1
    injection h1 with h1
  have HSM := Lib.hid hsame
  have hx2 := h.old2 hnb
  obtain ⟨ov, o1, o2, o3⟩ := hx2
  obtain ⟨oa, oc, rfl⟩ := o3.form
  have c2 : W'.cell? ⟨fb, 2, none⟩ = some (.slice oa rs.length oc) := o1.at rfl
  have f2 : W'.frozen? ⟨fb, 2, none⟩ = false := o1.free 2
  have e0 : W'.cell? ⟨W.heap.size, 0, none⟩ = some (.int .i64 (ns[0]?.getD 0)) := hns.at rfl
  have e1 : W'.cell? ⟨W.heap.size, 1, none⟩ = some (.int .i64 (ns[1]?.getD 0)) := hns.at rfl
  obtain ⟨a0, ha0⟩ : ∃ a, ns[0]?.getD 0 = a := ⟨_, rfl⟩
  rw [ha0] at e0
  obtain ⟨a1, ha1⟩ : ∃ a, ns[1]?.getD 0 = a := ⟨_, rfl⟩
  rw [ha1] at e1
  have hrow : (rowK 2 ns).toArray = #[.int .i64 a0, .int .i64 a1] := by
    show (#[Value.int .i64 (ns[0]?.getD 0), Value.int .i64 (ns[1]?.getD 0)] : Array Value) = _
    rw [ha0, ha1]
  clear ha0 ha1
  have HNS := Lib.hid hrow
  clear hok hsame hcall hrow
  have hbs : base ≤ W'.heap.size := Nat.le_trans (by omega) hnb.size
  go_wp2_with (at_builtin; refine wpList_append_K rfl (.tmp 12) (.tmp 14) 28 49 2 (.agg #[.int .i64 0, .int .i64 0]) Tryz.underlying28 Tryz.infoKA rfl (by omega) (by omega) rfl W' ns _ HNS.out.symm rfl rfl o3 hl hbs ?_; intro v' w4 hown hgr; obtain ⟨pa, pc, rfl⟩ := hown.form; have hln : (rs ++ [ns]).length = rs.length + 1 := (by simp); rw [hln] at hown; have q4 := blk_grown (o1.alloc (.cells #[.int .i64 a0, .int .i64 a1] 49)) hgr neA (o3.alloc (.cells #[.int .i64 a0, .int .i64 a1] 49)); have c4 : w4.cell? ⟨fb, 2, none⟩ = some (.slice oa rs.length oc) := q4.at rfl; have f4 := q4.free 2)
  go_ret
  have qs : ∀ k, k < [cb].length → Blk w4 ([cb][k]?.getD 0) #[.int .i64 (hd[k + 2]?.getD 0)] 3 := fun k hk => blk_grown ((o2 k hk).alloc (.cells #[.int .i64 a0, .int .i64 a1] 49)) hgr neiA (o3.alloc (.cells #[.int .i64 a0, .int .i64 a1] 49))
  have hkx : Kx PB 49 W (w4.setCell ⟨fb, 2, none⟩ (.slice pa (rs.length + 1) pc)) := (((Kx.below hnb (Nat.le_refl _)).trans (Kx.below ((Below.refl W'.heap.size W').alloc (Nat.le_refl _) (.cells #[.int .i64 a0, .int .i64 a1] 49)) (Nat.le_refl _))).trans (Kx.grown hgr (fun r hr => (o3.alloc (.cells #[.int .i64 a0, .int .i64 a1] 49)).own hr))).low hfb.2 _
  have hbl : Below base W (w4.setCell ⟨fb, 2, none⟩ (.slice pa (rs.length + 1) pc)) := ((((hb01.mono (by omega)).trans hbw).alloc hbs (.cells #[.int .i64 a0, .int .i64 a1] 49)).grown hgr (by simp; omega) (fun k hk => o3.base_le hk)).setCell (p := ⟨fb, 2, none⟩) hfb.1 _
  refine ⟨rfl, fun r hr => ?_, hbl, hkx⟩
  have hrr := HSM.out r hr
  have hst : StA base fb cb hd (rs ++ [ns]) (w4.setCell ⟨fb, 2, none⟩ (.slice pa (rs.length + 1) pc)) := by
    refine ⟨_, q4.set (i := 2) _, fun k hk => (qs k hk).other ?_ _, hown.setB q4 neA _⟩
    have hk' : k < [cb].length := hk
    simp only [List.length_cons, List.length_nil] at hk'
    match k, hk' with
    | 0, _ => exact fun e => n1 e.symm
  exact hst.congr_last hrr
end Go.Proofs.YtaccaebdmndkiaaGreatDoor
