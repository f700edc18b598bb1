/- The readers of lines of Read: the closures. No conditions beyond those stated. -/
import Derived.Test.YtaccaebdmndkiaaGreatDoorBRow
namespace Go.Proofs.YtaccaebdmndkiaaGreatDoor
open Go.RowKit
set_option linter.unusedVariables false

abbrev StF (base fb cb sb : Nat) (hd : List Int) (rs : List (List Int)) (W : World) : Prop := FSt base 47 5 27 fb [cb, sb] hd rs W
theorem Tryz.infoKF : (Tryz.prog.info? 47).map (fun i => (i.zero, i.size, i.bytes)) = some (some (.agg #[.int .i64 0, .int .i64 0, .int .i64 0, .int .i64 0, .int .i64 0]), 5, 8 * 5) := by kernel_rfl
theorem neF : 27 ≠ 47 := by decide
theorem neiF : 3 ≠ 47 := by decide
theorem nepF : 85 ≠ 47 := by decide

set_option maxRecDepth 100000 in
set_option maxHeartbeats 1000000 in
theorem headF_any (base PB fb cb sb : Nat) (x : ByteArray) (W : World) (hx : x.size ≤ 2 ^ 30) (h : StF base fb cb sb [] [] W) (hM : MaxI base W) (hfb : base ≤ fb ∧ fb < PB) (hcb : base ≤ cb ∧ cb < PB) (hsb : base ≤ sb ∧ sb < PB) (n1 : fb ≠ cb) (n2 : fb ≠ sb) (n3 : cb ≠ sb) (hPB : PB ≤ W.heap.size) (hbase : base ≤ PB) :
    Calls Tryz.prog 40 #[.string x, .pointer (some ⟨fb, 0, none⟩), .pointer (some ⟨cb, 0, none⟩), .pointer (some ⟨sb, 0, none⟩)] W fun e W' => e = .returned (.bool (rowOf wPAY 4 x.data.toList).isSome) ∧ (∀ r, rowOf wPAY 4 x.data.toList = some r → StF base fb cb sb r [] W') ∧ Below base W W' ∧ Kx PB 47 W W' := by
  have hq := Blk.new W #[.pointer (some ⟨fb, 0, none⟩), .pointer (some ⟨fb, 1, none⟩), .pointer (some ⟨cb, 0, none⟩), .pointer (some ⟨sb, 0, none⟩)] 85
  have hb1 : Below W.heap.size W (W.alloc (.cells #[.pointer (some ⟨fb, 0, none⟩), .pointer (some ⟨fb, 1, none⟩), .pointer (some ⟨cb, 0, none⟩), .pointer (some ⟨sb, 0, none⟩)] 85)) := (Below.refl _ W).alloc (Nat.le_refl _) _
  have hcs : ∀ x ∈ [cb, sb], base ≤ x ∧ x < PB := by intro y hy; simp only [List.mem_cons, List.not_mem_nil, or_false] at hy; rcases hy with rfl | rfl <;> assumption
  have hnd : ∀ i j, i < [cb, sb].length → j < [cb, sb].length → [cb, sb][i]?.getD 0 = [cb, sb][j]?.getD 0 → i = j := by
    intro i j hi hj he
    simp only [List.length_cons, List.length_nil] at hi hj
    have h1 : i = 0 ∨ i = 1 := by omega
    have h2 : j = 0 ∨ j = 1 := by omega
    rcases h1 with rfl | rfl <;> rcases h2 with rfl | rfl <;> simp at he ⊢ <;> omega
  have hnf : ∀ x ∈ [cb, sb], x ≠ fb := by intro y hy; simp only [List.mem_cons, List.not_mem_nil, or_false] at hy; rcases hy with rfl | rfl <;> omega
  have hpl := headPlaces (base := base) (T := 47) (c := 5) (tS := 27) (W0 := W.alloc (.cells #[.pointer (some ⟨fb, 0, none⟩), .pointer (some ⟨fb, 1, none⟩), .pointer (some ⟨cb, 0, none⟩), .pointer (some ⟨sb, 0, none⟩)] 85)) (b := W.heap.size) neF neiF hfb.2 (fun x hx => (hcs x hx).2) hnf hnd hPB
  have hcall := numbers_any _ x ⟨#[80, 65, 89]⟩ (headPs fb [cb, sb]) 85 W.heap.size base (W.alloc (.cells #[.pointer (some ⟨fb, 0, none⟩), .pointer (some ⟨fb, 1, none⟩), .pointer (some ⟨cb, 0, none⟩), .pointer (some ⟨sb, 0, none⟩)] 85)) hx hq hpl (fun W' hb => ⟨(h.sx ((Sx.below hb1 (Nat.le_refl _)).trans (Sx.below (PB := PB) hb (Nat.le_refl _))) hfb.2 (fun x hx => (hcs x hx).2)), Kx.below hb (Nat.le_refl _)⟩) (by simp [headPs]) (by
    intro p hp
    simp only [headPs, List.mem_cons, List.mem_map] at hp
    rcases hp with rfl | rfl | ⟨y, hy, rfl⟩
    · exact hfb.1
    · exact hfb.1
    · exact (hcs y (by simpa using hy)).1) (by simp; omega) (hM.up (hb1.mono (by omega)) (by simp; omega))
  have hw : (⟨#[80, 65, 89]⟩ : ByteArray).data.toList = wPAY := rfl
  rw [hw] at hcall
  have hlen : (headPs fb [cb, sb]).length = 4 := rfl
  rw [hlen] at hcall
  clear hpl hq hcs hnd hnf hw hlen
  go_enter Tryz.func40, Tryz.ntmps40
  go_wp2_with fail
  refine hcall.mono ?_
  unfold NumsEnd
  rintro e W' ⟨rfl, ⟨ns, -, hkx⟩, hok, hbw⟩
  have HOK := Lib.hid hok
  clear hok
  go_wp2_with fail
  go_ret
  exact ⟨rfl, fun r hr => (HOK.out r hr).1, (hb1.mono (by omega)).trans hbw, (Kx.below hb1 (Nat.le_refl _)).trans hkx⟩

set_option maxRecDepth 100000 in
set_option maxHeartbeats 1000000 in
theorem itemF_any (base PB fb cb sb : Nat) (hd : List Int) (rs : List (List Int)) (x : ByteArray) (W : World) (hx : x.size ≤ 2 ^ 30) (h : StF base fb cb sb hd rs W) (hl : rs.length ≤ 3000000) (hM : MaxI base W) (hfb : base ≤ fb ∧ fb < PB) (hcb : base ≤ cb ∧ cb < PB) (hsb : base ≤ sb ∧ sb < PB) (n1 : fb ≠ cb) (n2 : fb ≠ sb) (n3 : cb ≠ sb) (hPB : PB ≤ W.heap.size) (hbase : base ≤ PB) :
    Calls Tryz.prog 42 #[.string x, .pointer (some ⟨fb, 0, none⟩)] W fun e W' => e = .returned (.bool (rowOf wOrder 5 x.data.toList).isSome) ∧ (∀ r, rowOf wOrder 5 x.data.toList = some r → StF base fb cb sb hd (rs ++ [r]) W') ∧ Below base W W' ∧ Kx PB 47 W W' := by
  have hq0 := Blk.new W #[.int .i64 0, .int .i64 0, .int .i64 0, .int .i64 0, .int .i64 0] 47
  have hb0 : Below W.heap.size W (W.alloc (.cells #[.int .i64 0, .int .i64 0, .int .i64 0, .int .i64 0, .int .i64 0] 47)) := (Below.refl _ W).alloc (Nat.le_refl _) _
  obtain ⟨W0, hW0⟩ : ∃ W0, W.alloc (.cells #[.int .i64 0, .int .i64 0, .int .i64 0, .int .i64 0, .int .i64 0] 47) = W0 := ⟨_, rfl⟩
  have hz0 : W0.heap.size = W.heap.size + 1 := by rw [← hW0]; simp
  rw [hW0] at hq0 hb0
  have hq1 := Blk.new W0 #[.pointer (some ⟨W.heap.size, 0, none⟩), .pointer (some ⟨W.heap.size, 1, none⟩), .pointer (some ⟨W.heap.size, 2, none⟩), .pointer (some ⟨W.heap.size, 3, none⟩), .pointer (some ⟨W.heap.size, 4, none⟩)] 85
  have hb1 : Below W0.heap.size W0 (W0.alloc (.cells #[.pointer (some ⟨W.heap.size, 0, none⟩), .pointer (some ⟨W.heap.size, 1, none⟩), .pointer (some ⟨W.heap.size, 2, none⟩), .pointer (some ⟨W.heap.size, 3, none⟩), .pointer (some ⟨W.heap.size, 4, none⟩)] 85)) := (Below.refl _ W0).alloc (Nat.le_refl _) _
  have hpl := itemPlaces (T := 47) (c := 5) (ob := W.heap.size) (b := W0.heap.size) (W0 := W) (by omega) (Nat.le_refl _)
  have hb01 : Below W.heap.size W (W0.alloc (.cells #[.pointer (some ⟨W.heap.size, 0, none⟩), .pointer (some ⟨W.heap.size, 1, none⟩), .pointer (some ⟨W.heap.size, 2, none⟩), .pointer (some ⟨W.heap.size, 3, none⟩), .pointer (some ⟨W.heap.size, 4, none⟩)] 85)) := hb0.trans (hb1.mono (by omega))
  have hcall := numbers_any _ x ⟨#[111, 114, 100, 101, 114]⟩ (itemPs W.heap.size 5) 85 W0.heap.size base (W0.alloc (.cells #[.pointer (some ⟨W.heap.size, 0, none⟩), .pointer (some ⟨W.heap.size, 1, none⟩), .pointer (some ⟨W.heap.size, 2, none⟩), .pointer (some ⟨W.heap.size, 3, none⟩), .pointer (some ⟨W.heap.size, 4, none⟩)] 85)) hx hq1 hpl (fun W' hb => ⟨(hq0.below (hb1.trans (hb.mono (by simp <;> omega))) (by omega)), hb01.trans (hb.mono (by simp <;> omega))⟩) (by simp [itemPs]) (by
    intro p hp
    simp only [itemPs, List.mem_map] at hp
    obtain ⟨j, _, rfl⟩ := hp
    show base ≤ W.heap.size
    omega) (by simp <;> omega) (hM.up (hb01.mono (by omega)) (by simp <;> omega))
  have hw : (⟨#[111, 114, 100, 101, 114]⟩ : ByteArray).data.toList = wOrder := rfl
  rw [hw] at hcall
  have hlen : (itemPs W.heap.size 5).length = 5 := rfl
  rw [hlen] at hcall
  rw [hz0] at hcall
  have HW0 := Lib.hid hW0
  have HZ0 := Lib.hid hz0
  clear hpl hq1 hw hlen hW0 hz0
  go_enter Tryz.func42, Tryz.ntmps42
  go_wp2_with fail
  rw [HW0.out]
  refine hcall.mono ?_
  unfold NumsEnd
  rintro e W' ⟨rfl, ⟨ns, hns, hnb⟩, hok, hbw⟩
  have hsame : ∀ r, rowOf wOrder 5 x.data.toList = some r → (rowK 5 ns).toArray = (rowK 5 r).toArray := by
    intro r hr
    have h1 := (hok r hr).1
    unfold Blk at h1 hns
    rw [hns] at h1
    injection h1 with h1
    injection h1 with h1
  have HSM := Lib.hid hsame
  have hx2 := h.old2 hnb
  obtain ⟨ov, o1, o2, o3⟩ := hx2
  obtain ⟨oa, oc, rfl⟩ := o3.form
  have c2 : W'.cell? ⟨fb, 2, none⟩ = some (.slice oa rs.length oc) := o1.at rfl
  have f2 : W'.frozen? ⟨fb, 2, none⟩ = false := o1.free 2
  have e0 : W'.cell? ⟨W.heap.size, 0, none⟩ = some (.int .i64 (ns[0]?.getD 0)) := hns.at rfl
  have e1 : W'.cell? ⟨W.heap.size, 1, none⟩ = some (.int .i64 (ns[1]?.getD 0)) := hns.at rfl
  have e2 : W'.cell? ⟨W.heap.size, 2, none⟩ = some (.int .i64 (ns[2]?.getD 0)) := hns.at rfl
  have e3 : W'.cell? ⟨W.heap.size, 3, none⟩ = some (.int .i64 (ns[3]?.getD 0)) := hns.at rfl
  have e4 : W'.cell? ⟨W.heap.size, 4, none⟩ = some (.int .i64 (ns[4]?.getD 0)) := hns.at rfl
  obtain ⟨a0, ha0⟩ : ∃ a, ns[0]?.getD 0 = a := ⟨_, rfl⟩
  rw [ha0] at e0
  obtain ⟨a1, ha1⟩ : ∃ a, ns[1]?.getD 0 = a := ⟨_, rfl⟩
  rw [ha1] at e1
  obtain ⟨a2, ha2⟩ : ∃ a, ns[2]?.getD 0 = a := ⟨_, rfl⟩
  rw [ha2] at e2
  obtain ⟨a3, ha3⟩ : ∃ a, ns[3]?.getD 0 = a := ⟨_, rfl⟩
  rw [ha3] at e3
  obtain ⟨a4, ha4⟩ : ∃ a, ns[4]?.getD 0 = a := ⟨_, rfl⟩
  rw [ha4] at e4
  have hrow : (rowK 5 ns).toArray = #[.int .i64 a0, .int .i64 a1, .int .i64 a2, .int .i64 a3, .int .i64 a4] := by
    show (#[Value.int .i64 (ns[0]?.getD 0), Value.int .i64 (ns[1]?.getD 0), Value.int .i64 (ns[2]?.getD 0), Value.int .i64 (ns[3]?.getD 0), Value.int .i64 (ns[4]?.getD 0)] : Array Value) = _
    rw [ha0, ha1, ha2, ha3, ha4]
  clear ha0 ha1 ha2 ha3 ha4
  have HNS := Lib.hid hrow
  clear hok hsame hcall hrow
  have hbs : base ≤ W'.heap.size := Nat.le_trans (by omega) hnb.size
  go_wp2_with (at_builtin; refine wpList_append_K rfl (.tmp 15) (.tmp 17) 25 47 5 (.agg #[.int .i64 0, .int .i64 0, .int .i64 0, .int .i64 0, .int .i64 0]) Tryz.underlying25 Tryz.infoKF rfl (by omega) (by omega) rfl W' ns _ HNS.out.symm rfl rfl o3 hl hbs ?_; intro v' w4 hown hgr; obtain ⟨pa, pc, rfl⟩ := hown.form; have hln : (rs ++ [ns]).length = rs.length + 1 := (by simp); rw [hln] at hown; have q4 := blk_grown (o1.alloc (.cells #[.int .i64 a0, .int .i64 a1, .int .i64 a2, .int .i64 a3, .int .i64 a4] 47)) hgr neF (o3.alloc (.cells #[.int .i64 a0, .int .i64 a1, .int .i64 a2, .int .i64 a3, .int .i64 a4] 47)); have c4 : w4.cell? ⟨fb, 2, none⟩ = some (.slice oa rs.length oc) := q4.at rfl; have f4 := q4.free 2)
  go_ret
  have qs : ∀ k, k < [cb, sb].length → Blk w4 ([cb, sb][k]?.getD 0) #[.int .i64 (hd[k + 2]?.getD 0)] 3 := fun k hk => blk_grown ((o2 k hk).alloc (.cells #[.int .i64 a0, .int .i64 a1, .int .i64 a2, .int .i64 a3, .int .i64 a4] 47)) hgr neiF (o3.alloc (.cells #[.int .i64 a0, .int .i64 a1, .int .i64 a2, .int .i64 a3, .int .i64 a4] 47))
  have hkx : Kx PB 47 W (w4.setCell ⟨fb, 2, none⟩ (.slice pa (rs.length + 1) pc)) := (((Kx.below hnb (Nat.le_refl _)).trans (Kx.below ((Below.refl W'.heap.size W').alloc (Nat.le_refl _) (.cells #[.int .i64 a0, .int .i64 a1, .int .i64 a2, .int .i64 a3, .int .i64 a4] 47)) (Nat.le_refl _))).trans (Kx.grown hgr (fun r hr => (o3.alloc (.cells #[.int .i64 a0, .int .i64 a1, .int .i64 a2, .int .i64 a3, .int .i64 a4] 47)).own hr))).low hfb.2 _
  have hbl : Below base W (w4.setCell ⟨fb, 2, none⟩ (.slice pa (rs.length + 1) pc)) := ((((hb01.mono (by omega)).trans hbw).alloc hbs (.cells #[.int .i64 a0, .int .i64 a1, .int .i64 a2, .int .i64 a3, .int .i64 a4] 47)).grown hgr (by simp; omega) (fun k hk => o3.base_le hk)).setCell (p := ⟨fb, 2, none⟩) hfb.1 _
  refine ⟨rfl, fun r hr => ?_, hbl, hkx⟩
  have hrr := HSM.out r hr
  have hst : StF base fb cb sb hd (rs ++ [ns]) (w4.setCell ⟨fb, 2, none⟩ (.slice pa (rs.length + 1) pc)) := by
    refine ⟨_, q4.set (i := 2) _, fun k hk => (qs k hk).other ?_ _, hown.setB q4 neF _⟩
    have hk' : k < [cb, sb].length := hk
    simp only [List.length_cons, List.length_nil] at hk'
    match k, hk' with
    | 0, _ => exact fun e => n1 e.symm
    | 1, _ => exact fun e => n2 e.symm
  exact hst.congr_last hrr
end Go.Proofs.YtaccaebdmndkiaaGreatDoor
