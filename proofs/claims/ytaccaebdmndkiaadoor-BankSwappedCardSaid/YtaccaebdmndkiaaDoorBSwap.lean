/- BankSwapped: the walk. No conditions beyond the readings of the arguments. -/
import Derived.Test.YtaccaebdmndkiaaDoorBSw0
import Derived.Lib.ConvBytes
namespace Go.Proofs.YtaccaebdmndkiaaDoor
open Go.RowKit
set_option linter.unusedVariables false

set_option maxRecDepth 100000 in
set_option maxHeartbeats 4000000 in
theorem swapped_walk (K : Nat) (n d : Int) (l : List Od) (v : Value) (an ad : Int) (rs : List Rt) (u : Value) (ans : Bool) (i0 k0 : Int) (w : World) (hv : Ords K w v l) (hu : Rets K w u rs) (hK : K ≤ w.heap.size) (hi0 : -(2 ^ 63) ≤ i0 ∧ i0 ≤ 2 ^ 63 - 1) (hk0 : -(2 ^ 63) ≤ k0 ∧ k0 ≤ 2 ^ 63 - 1)
    (hT : Tabs w.heap.size w) (hM : MaxI w.heap.size w) :
    Calls Tryd.prog 6 #[.agg #[.int .i64 n, .int .i64 d, v], .agg #[.int .i64 an, .int .i64 ad, u], .bool ans, .int .i64 i0, .int .i64 k0] w fun e w' => e = .returned (.bool true) ∧ Below w.heap.size w w' := by
  have hvl : ∃ a cap, v = .slice a l.length cap := by obtain ⟨a, cap, rfl, _⟩ := hv; exact ⟨a, cap, rfl⟩
  obtain ⟨va, vcap, rfl⟩ := hvl
  have hul : ∃ a cap, u = .slice a rs.length cap := by obtain ⟨a, cap, rfl, _⟩ := hu; exact ⟨a, cap, rfl⟩
  obtain ⟨ua, ucap, rfl⟩ := hul
  have hb1 : Below w.heap.size w ((w.alloc (.cells #[.int .i64 n, .int .i64 d, .slice va l.length vcap] 24)).alloc (.cells #[.int .i64 an, .int .i64 ad, .slice ua rs.length ucap] 27)) := ((Below.refl _ w).alloc (Nat.le_refl _) _).alloc (by simp) _
  have q1 := (Blk.new w #[.int .i64 n, .int .i64 d, .slice va l.length vcap] 24).alloc (.cells #[.int .i64 an, .int .i64 ad, .slice ua rs.length ucap] 27)
  have q2 := Blk.new (w.alloc (.cells #[.int .i64 n, .int .i64 d, .slice va l.length vcap] 24)) #[.int .i64 an, .int .i64 ad, .slice ua rs.length ucap] 27
  rw [World.size_alloc] at q2
  obtain ⟨W1, hW1⟩ : ∃ W1, (w.alloc (.cells #[.int .i64 n, .int .i64 d, .slice va l.length vcap] 24)).alloc (.cells #[.int .i64 an, .int .i64 ad, .slice ua rs.length ucap] 27) = W1 := ⟨_, rfl⟩
  rw [hW1] at hb1 q1 q2
  have HW1 := Lib.hid hW1
  clear hW1
  have hT1 := hT.up hb1 hb1.size
  have hv1 : Ords W1.heap.size W1 (.slice va l.length vcap) l := Recs.below hv hb1 hK (Nat.le_trans hK hb1.size)
  have hu1 : Rets W1.heap.size W1 (.slice ua rs.length ucap) rs := Recs.below hu hb1 hK (Nat.le_trans hK hb1.size)
  have ha := awake_any W1 hT1
  clear hv hu
  go_enter Tryd.func6, Tryd.ntmps6
  go_wp2_with fail
  rw [HW1.out]
  refine ha.mono ?_
  rintro e w2 ⟨rfl, hb2⟩
  clear ha
  have hbq := hb1.trans (hb2.mono hb1.size)
  obtain ⟨d0, d1, d2⟩ := (q1.below hb2 q1.lt).three
  obtain ⟨e0, e1, e2⟩ := (q2.below hb2 q2.lt).three
  have hv2 : Ords W1.heap.size w2 (.slice va l.length vcap) l := Recs.below hv1 hb2 (Nat.le_refl _) (Nat.le_refl _)
  have hu2 : Rets W1.heap.size w2 (.slice ua rs.length ucap) rs := Recs.below hu1 hb2 (Nat.le_refl _) (Nat.le_refl _)
  have htx := text_any W1.heap.size n d l _ an ad rs _ ans w2 hv2 hu2 hb2.size (hT.up hbq hbq.size)
  obtain ⟨sl, hsl⟩ : ∃ sl, textS ⟨n, d, l⟩ ⟨an, ad, rs⟩ ans = sl := ⟨_, rfl⟩
  have hacc : sl ≠ [] → taken sl = true ∧ sl.length ≤ 100122 := fun h => by rw [← hsl] at h ⊢; exact textS_acc h
  rw [hsl] at htx
  obtain ⟨t, ht⟩ : ∃ t : ByteArray, (⟨sl.toArray⟩ : ByteArray) = t := ⟨_, rfl⟩
  have htd : t.data.toList = sl := by rw [← ht]
  rw [ht] at htx
  have HT := Lib.hid htd
  have HACC := Lib.hid hacc
  have hts := size_of htd
  have htl := toList_of htd
  clear hsl ht htd hacc hv1 hu1 hv2 hu2 q1 q2
  go_wp2_with fail
  refine htx.mono ?_
  rintro e w3 ⟨rfl, hb3⟩
  clear htx d0 d1 d2 e0 e1 e2
  have hb13 := hbq.trans (hb3.mono hbq.size)
  by_cases hnil : sl = []
  · have h0 : t.toList = [] := htl.trans hnil
    clear hnil htl hts
    go_wp2_with fail
    go_quiet (fail)
    go_wp2_with fail
    go_ret
    exact ⟨rfl, below_drewN2 hb13 _⟩
  obtain ⟨htk, hlen⟩ := HACC.out hnil
  have hA := acc_taken htk
  have h0 : ¬ t.toList = [] := by rw [htl]; exact hnil
  have h0' : t.toList.isEmpty = false := by rw [htl]; cases sl with | nil => exact absurd rfl hnil | cons a b => rfl
  have hsz : t.size ≤ 100122 := by omega
  have HS := Lib.hid hts
  have HN := Lib.hid hnil
  clear hts hnil htl htk
  by_cases hneg : i0 < 0
  · have g1 : decide (i0 < 0) = true := decide_eq_true hneg
    go_wp2_with fail
    go_quiet (fail)
    go_wp2_with fail
    go_ret
    exact ⟨rfl, below_drewN2 hb13 _⟩
  have g1 : decide (i0 < 0) = false := decide_eq_false hneg
  by_cases hge : k0 ≤ i0
  · have g2 : decide (k0 ≤ i0) = true := decide_eq_true hge
    go_wp2_with fail
    go_quiet (fail)
    go_wp2_with fail
    go_ret
    exact ⟨rfl, below_drewN2 hb13 _⟩
  have g2 : decide (k0 ≤ i0) = false := decide_eq_false hge
  obtain ⟨i, rfl⟩ : ∃ i : Nat, i0 = (i : Int) := ⟨i0.toNat, by omega⟩
  obtain ⟨k, rfl⟩ : ∃ i : Nat, k0 = (i : Int) := ⟨k0.toNat, by omega⟩
  have hik : i < k := by omega
  by_cases hbig : t.size ≤ k
  · have g3 : decide ((t.size : Int) ≤ (k : Int)) = true := decide_eq_true (by omega)
    go_wp2_with fail
    go_quiet (fail)
    go_wp2_with fail
    go_ret
    exact ⟨rfl, below_drewN2 hb13 _⟩
  have g3 : decide ((t.size : Int) ≤ (k : Int)) = false := decide_eq_false (by omega)
  have hkt : k < t.size := by omega
  have hit : i < t.size := by omega
  have hbi : t[i] = sl[i]?.getD 0 := str_at HT.out hit
  have hbk : t[k] = sl[k]?.getD 0 := str_at HT.out hkt
  have HBI := Lib.hid hbi
  have HBK := Lib.hid hbk
  clear hneg hge hbig hbi hbk hi0 hk0
  have b1 : (0 : Int) ≤ (i : Int) := by omega
  have b2 : (0 : Int) ≤ (k : Int) := by omega
  have b3 : (i : Int) < (t.size : Int) := by omega
  have b4 : (k : Int) < (t.size : Int) := by omega
  by_cases hsame : sl[i]?.getD 0 = sl[k]?.getD 0
  · have g4 : (((t[i]).toNat : Int) == ((t[k]).toNat : Int)) = true := by rw [HBI.out, HBK.out, hsame]; simp
    clear hsame
    go_wp2_with fail
    go_quiet (fail)
    go_wp2_with fail
    go_ret
    exact ⟨rfl, below_drewN2 hb13 _⟩
  have g4 : (((t[i]).toNat : Int) == ((t[k]).toNat : Int)) = false := by
    rw [HBI.out, HBK.out, beq_eq_false_iff_ne]
    intro e
    exact hsame (UInt8.toNat_inj.1 (by simpa using Int.ofNat_inj.1 e))
  have HNS := Lib.hid hsame
  clear hsame
  have hcv := fun nq => Lib.run_convert_string_bytes (P := Tryd.prog) (w3.drewN nq) 9 53 5 t Tryd.underlying9 Tryd.underlying53 Tryd.underlying5
  go_wp2_with fail
  go_quiet (fail)
  have hcv := hcv nq
  go_wp2_with fail
  have hBZ : (w3.drewN nq).heap.size = w3.heap.size := rfl
  have hcl : ∀ j, j < t.size → (Lib.bytesWorld (w3.drewN nq) 5 t).cell? ⟨w3.heap.size, j, none⟩ = some (B (sl[j]?.getD 0)) := by
    intro j hj
    have := Lib.bytesWorld_cell (w3.drewN nq) 5 t j hj
    rw [HT.out] at this
    exact this
  have hfr : ∀ j, j < t.size → (Lib.bytesWorld (w3.drewN nq) 5 t).frozen? ⟨w3.heap.size, j, none⟩ = false := by
    intro j hj
    have h1 := Lib.bytesWorld_at_new (w3.drewN nq) 5 t
    have h2 : t.size ≤ (Lib.bytesCells (w3.drewN nq) 5 t).size := by simp [Lib.bytesCells]
    rw [hBZ] at h1
    simp only [World.frozen?, h1]
    simp; omega
  have hcap : t.size ≤ grownCap (w3.drewN nq) t.size 0 5 := grownCap_ge _ _ _ _
  have hcm : grownCap (w3.drewN nq) t.size 0 5 ≤ maxLen := grownCap_le_maxLen _ _ _ _ (by unfold maxLen; omega)
  have hbel : Below w3.heap.size w3 (Lib.bytesWorld (w3.drewN nq) 5 t) := ⟨rfl, rfl, rfl, by rw [Lib.bytesWorld_size]; exact Nat.le_succ _, fun b hb => Lib.bytesWorld_at_old (w3.drewN nq) 5 t b hb⟩
  obtain ⟨cp, hcp⟩ : ∃ cp, grownCap (w3.drewN nq) t.size 0 5 = cp := ⟨_, rfl⟩
  obtain ⟨Wb, hWb⟩ : ∃ Wb, Lib.bytesWorld (w3.drewN nq) 5 t = Wb := ⟨_, rfl⟩
  rw [hcp] at hcap hcm ⊢
  rw [hWb] at hcl hfr hbel ⊢
  obtain ⟨B0, hB0⟩ : ∃ B0, w3.heap.size = B0 := ⟨_, rfl⟩
  have hbW := hb13.trans (hbel.mono hb13.size)
  have hle := hb13.size
  rw [hB0] at hcl hfr hle ⊢
  clear hcv hcp hWb hbel hBZ
  have xi := hcl i hit
  have xk := hcl k hkt
  have fi := hfr i hit
  have fk := hfr k hkt
  obtain ⟨ci, hci⟩ : ∃ ci, sl[i]?.getD 0 = ci := ⟨_, rfl⟩
  obtain ⟨ck, hck⟩ : ∃ ck, sl[k]?.getD 0 = ck := ⟨_, rfl⟩
  rw [hci] at xi
  rw [hck] at xk
  have HCI := Lib.hid hci
  have HCK := Lib.hid hck
  clear hci hck
  have hne : i ≠ k := by omega
  refine wp_onlyN ?_
  refine region_plain (fun _ => True) [] (by kernel_rfl) ?_
  have qQ : (fun _ : World => True) Wb.drew := trivial
  refine wpAnyD_take (i := 2) (v := .slice (some ⟨B0, 0, none⟩) t.size cp) rfl (by kernel_rfl) (by kernel_rfl) (by kernel_rfl) (by kernel_rfl) (by kernel_rfl) (fun _ _ _ h => h) (.inl ⟨by kernel_rfl, fun W' hS => by go_simp⟩) qQ ?_
  refine wpAnyD_take (i := 3) (v := .int .i64 k) rfl (by kernel_rfl) (by kernel_rfl) (by kernel_rfl) (by kernel_rfl) (by kernel_rfl) (fun _ _ _ h => h) (.inl ⟨by kernel_rfl, fun W' hS => by go_simp⟩) qQ ?_
  refine wpAnyD_take (i := 8) (v := .slice (some ⟨B0, 0, none⟩) t.size cp) rfl (by kernel_rfl) (by kernel_rfl) (by kernel_rfl) (by kernel_rfl) (by kernel_rfl) (fun _ _ _ h => h) (.inl ⟨by kernel_rfl, fun W' hS => by go_simp⟩) qQ ?_
  refine wpAnyD_take (i := 9) (v := .int .i64 i) rfl (by kernel_rfl) (by kernel_rfl) (by kernel_rfl) (by kernel_rfl) (by kernel_rfl) (fun _ _ _ h => h) (.inl ⟨by kernel_rfl, fun W' hS => by go_simp⟩) qQ ?_
  refine wpAnyD_take (i := 10) (v := .pointer (some ⟨B0, i, none⟩)) rfl (by kernel_rfl) (by kernel_rfl) (by kernel_rfl) (by kernel_rfl) (by kernel_rfl) (fun _ _ _ h => h) (.inl ⟨by kernel_rfl, fun W' hS => by go_simp⟩) qQ ?_
  refine wpAnyD_weaken (S := fun W => W.cell? ⟨B0, k, none⟩ = some (B ck) ∧ W.cell? ⟨B0, i, none⟩ = some (B ci)) (D := [13, 14, 15]) _ _ _ _ ?_
  have qQ : (fun W : World => W.cell? ⟨B0, k, none⟩ = some (B ck) ∧ W.cell? ⟨B0, i, none⟩ = some (B ci)) Wb.drew := ⟨xk, xi⟩
  refine wpAnyD_take (i := 0) (v := .slice (some ⟨B0, 0, none⟩) t.size cp) rfl (by kernel_rfl) (by kernel_rfl) (by kernel_rfl) (by kernel_rfl) (by kernel_rfl) (fun _ _ _ h => h) (.inl ⟨by kernel_rfl, fun W' hS => by have z1 := hS.1; have z2 := hS.2; go_simp⟩) qQ ?_
  refine wpAnyD_take (i := 1) (v := .int .i64 i) rfl (by kernel_rfl) (by kernel_rfl) (by kernel_rfl) (by kernel_rfl) (by kernel_rfl) (fun _ _ _ h => h) (.inl ⟨by kernel_rfl, fun W' hS => by have z1 := hS.1; have z2 := hS.2; go_simp⟩) qQ ?_
  refine wpAnyD_take (i := 4) (v := .slice (some ⟨B0, 0, none⟩) t.size cp) rfl (by kernel_rfl) (by kernel_rfl) (by kernel_rfl) (by kernel_rfl) (by kernel_rfl) (fun _ _ _ h => h) (.inl ⟨by kernel_rfl, fun W' hS => by have z1 := hS.1; have z2 := hS.2; go_simp⟩) qQ ?_
  refine wpAnyD_take (i := 5) (v := .int .i64 k) rfl (by kernel_rfl) (by kernel_rfl) (by kernel_rfl) (by kernel_rfl) (by kernel_rfl) (fun _ _ _ h => h) (.inl ⟨by kernel_rfl, fun W' hS => by have z1 := hS.1; have z2 := hS.2; go_simp⟩) qQ ?_
  refine wpAnyD_take (i := 6) (v := .pointer (some ⟨B0, k, none⟩)) rfl (by kernel_rfl) (by kernel_rfl) (by kernel_rfl) (by kernel_rfl) (by kernel_rfl) (fun _ _ _ h => h) (.inl ⟨by kernel_rfl, fun W' hS => by have z1 := hS.1; have z2 := hS.2; go_simp⟩) qQ ?_
  refine wpAnyD_take (i := 7) (v := B ck) rfl (by kernel_rfl) (by kernel_rfl) (by kernel_rfl) (by kernel_rfl) (by kernel_rfl) (fun _ _ _ h => h) (.inl ⟨by kernel_rfl, fun W' hS => by have z1 := hS.1; have z2 := hS.2; go_simp⟩) qQ ?_
  refine wpAnyD_take (i := 11) (v := B ci) rfl (by kernel_rfl) (by kernel_rfl) (by kernel_rfl) (by kernel_rfl) (by kernel_rfl) (fun _ _ _ h => h) (.inl ⟨by kernel_rfl, fun W' hS => by have z1 := hS.1; have z2 := hS.2; go_simp⟩) qQ ?_
  refine wpAnyD_take (i := 12) (v := .pointer (some ⟨B0, i, none⟩)) rfl (by kernel_rfl) (by kernel_rfl) (by kernel_rfl) (by kernel_rfl) (by kernel_rfl) (fun _ _ _ h => h) (.inl ⟨by kernel_rfl, fun W' hS => by have z1 := hS.1; have z2 := hS.2; go_simp⟩) qQ ?_
  refine wpAnyD_one (i := 13) (by kernel_rfl) rfl (by kernel_rfl) ?_
  go_simp
  have yk := set_other xk hne (B ck)
  have gk : (Wb.setCell ⟨B0, i, none⟩ (B ck)).frozen? ⟨B0, k, none⟩ = false := by rw [World.frozen?_setCell]; exact fk
  refine wpAnyD_one (i := 14) (by kernel_rfl) rfl (by kernel_rfl) ?_
  go_simp
  refine wpAnyD_one (i := 15) (by kernel_rfl) rfl (by kernel_rfl) ?_
  go_simp
  refine wpAnyD_done (by kernel_rfl) ?_ _
  refine onlyN_mk ?_
  have xi4 : ∀ j, j < t.size → ((Wb.setCell ⟨B0, i, none⟩ (B ck)).setCell ⟨B0, k, none⟩ (B ci)).cell? ⟨B0, j, none⟩ = some (B ((swp sl i k)[j]?.getD 0)) := swp_cells HS.out hcl hit hkt hne HCI.out HCK.out
  have hbW4 : Below w.heap.size w (((Wb.setCell ⟨B0, i, none⟩ (B ck)).setCell ⟨B0, k, none⟩ (B ci)).drew) := ((hbW.setCell (p := ⟨B0, i, none⟩) hle _).setCell (p := ⟨B0, k, none⟩) hle _).trans ⟨rfl, rfl, rfl, Nat.le_refl _, fun _ _ => rfl⟩
  have hlb : B0 < (((Wb.setCell ⟨B0, i, none⟩ (B ck)).setCell ⟨B0, k, none⟩ (B ci)).drew).heap.size := World.block_lt_of_cell? _ _ (xi4 i hit)
  have hby : Byts (B0 + 1) (((Wb.setCell ⟨B0, i, none⟩ (B ck)).setCell ⟨B0, k, none⟩ (B ci)).drew) (.slice (some ⟨B0, 0, none⟩) (swp sl i k).length cp) (swp sl i k) := by
    have hl : (swp sl i k).length = t.size := by unfold swp; simp [HS.out]
    exact Byts.mk_cells (by rw [hl]; exact hcap) hcm (by omega) fun j hj => by rw [Nat.zero_add]; exact xi4 j (by rw [← hl]; exact hj)
  have hcs := conv_str hby
  rw [show (swp sl i k).length = t.size by unfold swp; simp [HS.out]] at hcs
  have hlsw : (swp sl i k).length ≤ 2 ^ 40 := by unfold swp; simp; omega
  have hac := acc_str (l := swp sl i k) _ hlsw (hT.up hbW4 hbW4.size) (hM.up hbW4 hbW4.size)
  rw [not_taken (not_swapped hA hik (by rw [← HS.out]; exact hkt) (by rw [HCI.out, HCK.out]; intro e; exact HNS.out (by rw [HCI.out, HCK.out]; exact e)))] at hac
  clear xi4 hby hlsw xi xk yk
  obtain ⟨W4, hW4⟩ : ∃ W4, (((Wb.setCell ⟨B0, i, none⟩ (B ck)).setCell ⟨B0, k, none⟩ (B ci)).drew) = W4 := ⟨_, rfl⟩
  rw [hW4] at hac hcs hbW4 ⊢
  clear hW4 hcl hfr
  go_wp2_with fail
  refine hac.mono ?_
  rintro e w5 ⟨rfl, hb5⟩
  go_wp2_with fail
  go_ret
  exact ⟨rfl, hbW4.trans (hb5.mono hbW4.size)⟩
end Go.Proofs.YtaccaebdmndkiaaDoor
