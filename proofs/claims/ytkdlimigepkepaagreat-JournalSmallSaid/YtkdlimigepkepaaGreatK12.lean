/- JournalSmall: the walk. No conditions. -/
import Derived.Test.YtkdlimigepkepaaGreatK11
import Derived.Test.YtkdlimigepkepaaGreatK7
namespace Go.Proofs.YtkdlimigepkepaaGreat
open Go.RowKit
set_option linter.unusedVariables false

theorem bits_u8 (op : BinOp) (x y : Int) : 0 ≤ bits op .u8 x y ∧ bits op .u8 x y < 256 := by
  obtain ⟨z, hz⟩ : ∃ z : Int, bits op .u8 x y = z % 256 := ⟨_, rfl⟩
  rw [hz]; omega
theorem Byts.three (w : World) (x y z : UInt8) (t : TypeId) : Byts (w.alloc (.cells #[B x, B y, B z] t)).heap.size (w.alloc (.cells #[B x, B y, B z] t)) (.slice (some ⟨w.heap.size, 0, none⟩) 3 3) [x, y, z] :=
  Byts.mk_cells (l := [x, y, z]) (Nat.le_refl _) (by simp [maxLen]) (by simp) (fun i hi => by
    simp only [List.length_cons, List.length_nil] at hi
    match i, hi with
    | 0, _ => simp
    | 1, _ => simp
    | 2, _ => simp)

set_option maxRecDepth 100000 in
set_option maxHeartbeats 16000000 in
theorem small_walk (w : World) : Calls Tryz.prog 3 #[] w fun e w' => e = .returned (.bool true) ∧ Below w.heap.size w w' := by
  obtain ⟨A, hA⟩ : ∃ x, formOf 1 [7, 0, 255] = x := ⟨_, rfl⟩
  obtain ⟨E, hE⟩ : ∃ x, formOf 2 [] = x := ⟨_, rfl⟩
  have hAl : A.length = 13 := by rw [← hA, formOf_length]; rfl
  have hEl : E.length = 10 := by rw [← hE, formOf_length]; rfl
  have hfA : formR 1 [7, 0, 255] = (A, 0) := by rw [← hA]; rfl
  have hfE : formR 2 [] = (E, 0) := by rw [← hE]; rfl
  have HFA := Lib.hid hfA; have HFE := Lib.hid hfE
  obtain ⟨b0, hb0⟩ : ∃ x, w.heap.size = x := ⟨_, rfl⟩
  have HB0 := Lib.hid hb0
  have h3 := Byts.three w 7 0 255 5
  have hka : Below w.heap.size w (w.alloc (.cells #[B 7, B 0, B 255] 5)) := (Below.refl _ w).alloc (Nat.le_refl _) _
  have hsa : w.heap.size ≤ (w.alloc (.cells #[B 7, B 0, B 255] 5)).heap.size := hka.size
  clear hA hE hfA hfE hb0
  go_enter Tryz.func3, Tryz.ntmps3
  go_wp2_with fail
  refine (form_ref_two HFA.out _ _ _ h3 (Nat.le_refl _)).mono ?_
  rintro e w2 ⟨aa, ac, rfl, ho2, hb2⟩
  have hk2 := hka.trans (hb2.mono hsa)
  have hs2 := Nat.le_trans hsa hb2.size
  have ra : Row w.heap.size w2.heap.size w2 (.slice aa A.length ac) A := Row.mk' (ho2.mono hsa)
  rw [hAl] at ra ⊢
  clear h3 hka hsa ho2 hb2
  go_wp2_with fail
  refine (form_ref_two HFE.out w2.heap.size _ w2 (Byts.nil none 0 (by simp [maxLen]) (fun _ => rfl)) (Nat.le_refl _)).mono ?_
  rintro e w3 ⟨ea, ec, rfl, ho3, hb3⟩
  have hk3 := hk2.trans (hb3.mono hs2)
  have h23 := hb3.size
  have hs3 := Nat.le_trans hs2 hb3.size
  replace ra := ra.below hb3
  have re := Row.mk' ho3
  rw [hEl] at re ⊢
  clear hk2 hs2 ho3 hb3
  have hoe := ownB_empty' (base := w3.heap.size) w3 (Nat.le_refl _)
  have hkb : Below w3.heap.size w3 (w3.alloc (.cells #[] 5)) := (Below.refl _ w3).alloc (Nat.le_refl _) _
  have hsz3 : w3.heap.size ≤ (w3.alloc (.cells #[] 5)).heap.size := hkb.size
  have raA := ra.below hkb
  have reA := re.below hkb
  have hsm1 : ([] : List UInt8).length + A.length ≤ 2 ^ 46 := by rw [hAl]; simp
  have hsm2 : (([] : List UInt8) ++ A).length + E.length ≤ 2 ^ 46 := by rw [List.length_append, hAl, hEl]; simp
  go_wp2_with (first
    | (at_builtin; refine wpList_append_B rfl (.tmp 20) (.tmp 21) rfl rfl rfl hoe raA.own.byts hsm1 hsz3 ?_; intro v4 w4 ho4 hg4 hat4; have hb4 := hkb.trans (below_of_grown hg4 (fun r hr => (ownsRow_cells hoe hr).1) hsz3); have re4 := (re.below hb4).own.byts; have hs4 := hb4.size; obtain ⟨xa4, xn4, xc4, rfl⟩ := ownBlock_of_OwnB ho4)
    | (at_builtin; refine wpList_append_B rfl (.tmp 22) (.tmp 23) rfl rfl rfl ho4 re4 hsm2 hs4 ?_; intro v5 w5 ho5 hg5 hat5; have hb5 := hb4.trans (below_of_grown hg5 (fun r hr => (ownsRow_cells ho4 hr).1) hs4); obtain ⟨xa5, xn5, xc5, rfl⟩ := ownBlock_of_OwnB ho5))
  rw [List.nil_append] at ho5
  obtain ⟨D, hD⟩ : ∃ x, A ++ E = x := ⟨_, rfl⟩
  have hDl : D.length = 23 := by rw [← hD, List.length_append, hAl, hEl]
  rw [hD] at ho5
  obtain ⟨da, dc, hde, hd1, hd2⟩ := ho5.form
  rw [hDl] at hde hd1
  simp only [Value.slice.injEq] at hde
  obtain ⟨rfl, rfl, rfl⟩ := hde
  have hd3 : xc5 ≤ 2 ^ 63 - 1 := by unfold maxLen at hd2; omega
  have rd : Row w3.heap.size w5.heap.size w5 (.slice xa5 23 xc5) D := Row.mk' ho5
  have ra5 := ra.below hb5
  have hk5 := hk3.trans (hb5.mono hs3)
  have hs5 := Nat.le_trans hs3 hb5.size
  have h35 := hb5.size
  have hac := ra.own.form
  obtain ⟨_, ac', hae, hac1, hac2⟩ := hac
  rw [hAl] at hae hac1
  simp only [Value.slice.injEq, true_and] at hae
  obtain ⟨rfl, rfl⟩ := hae
  have hac3 : ac ≤ 2 ^ 63 - 1 := by unfold maxLen at hac2; omega
  have HAL := Lib.hid hAl; have HDL := Lib.hid hDl
  clear ra re raA reA hoe hkb hsz3 hsm1 hsm2 hd2 hac2 ho4 hg4 hat4 hb4 re4 hs4 ho5 hg5 hat5 hb5 hk3 hs3 hD hAl hDl hEl
  go_loopw [6, 7, 8, 9, 10] (fun s6 s7 s8 s9 s10 wr => ∃ n : Nat, n ≤ 24 ∧ s6 = .int .i64 (n : Nat) ∧ Row w3.heap.size w5.heap.size wr (.slice xa5 23 xc5) D ∧ Row w.heap.size w2.heap.size wr (.slice aa 13 ac) A ∧ Below w.heap.size w wr ∧ w5.heap.size ≤ wr.heap.size) (fun s6 _ _ _ _ _ => 24 - (intOf s6).toNat)
  case atStart => exact ⟨0, by omega, rfl, rd, ra5, hk5, Nat.le_refl _⟩
  case round =>
    obtain ⟨n, hn, rfl, rd, ra, hk, hsw⟩ := hrel
    have hs : w.heap.size ≤ wr.heap.size := Nat.le_trans hs5 hsw
    clear ra5 hk5
    by_cases hlt : n ≤ 23
    · have tn : decide ((n : Int) ≤ (23 : Int)) = true := by simp; omega
      go_wp2_with fail
      go_loopw [7, 8, 9, 10] (fun s7 s8 s9 s10 wx => ∃ k : Nat, k ≤ 6 ∧ s7 = .int .i64 (k : Nat) ∧ Row w3.heap.size w5.heap.size wx (.slice xa5 23 xc5) D ∧ Row w.heap.size w2.heap.size wx (.slice aa 13 ac) A ∧ Below w.heap.size w wx ∧ w5.heap.size ≤ wx.heap.size) (fun s7 _ _ _ _ => 6 - (intOf s7).toNat)
      case atStart => exact ⟨0, by omega, rfl, rd, ra, hk, hsw⟩
      case round =>
        obtain ⟨k, hk6, rfl, rd, ra, hk, hsw⟩ := hrel
        have hs : w.heap.size ≤ wr.heap.size := Nat.le_trans hs5 hsw
        by_cases hltk : k < 6
        · have tk : decide ((k : Int) < (6 : Int)) = true := by simp; omega
          have hoe := ownB_empty' (base := wr.heap.size) wr (Nat.le_refl _)
          have hkb : Below wr.heap.size wr (wr.alloc (.cells #[] 5)) := (Below.refl _ wr).alloc (Nat.le_refl _) _
          have hsz3 : wr.heap.size ≤ (wr.alloc (.cells #[] 5)).heap.size := hkb.size
          have rdA := rd.below hkb
          have hsm1 : ([] : List UInt8).length + D.length ≤ 2 ^ 46 := by rw [HDL.out]; simp
          go_upto_region 11 with (at_builtin; refine wpList_append_B rfl (.tmp 35) (.tmp 36) rfl rfl rfl hoe rdA.own.byts hsm1 hsz3 ?_; intro v6 w6 ho6 hg6 hat6; have hb6 := hkb.trans (below_of_grown hg6 (fun r hr => (ownsRow_cells hoe hr).1) hsz3); obtain ⟨xa6, xn6, xc6, rfl⟩ := ownBlock_of_OwnB ho6)
          rw [List.nil_append] at ho6
          obtain ⟨ga, gc, hge, hg1, hg2⟩ := ho6.form
          rw [HDL.out] at hge hg1
          simp only [Value.slice.injEq] at hge
          obtain ⟨rfl, rfl, rfl⟩ := hge
          have hg3 : xc6 ≤ 2 ^ 63 - 1 := by unfold maxLen at hg2; omega
          have rd6 := rd.below hb6
          have hb6s := hb6.size
          have ra6 := ra.below hb6
          have hk6' := hk.trans (hb6.mono hs)
          have hs6 := Nat.le_trans hs hb6.size
          clear hg2 hg6 hat6 hb6 hoe hkb hsz3 rdA hsm1 rd ra hk hs
          by_cases hn23 : n < 23
          · have tn3 : decide ((n : Int) < (23 : Int)) = true := by simp; omega
            obtain ⟨g, cap, hge2, hgb, hgs, _, _, hgcell, hgf⟩ := ho6.some' (by rw [HDL.out]; omega)
            rw [HDL.out] at hge2
            simp only [Value.slice.injEq, true_and] at hge2
            obtain ⟨rfl, rfl⟩ := hge2
            have hce := hgcell n (by rw [HDL.out]; exact hn23)
            have hcf := hgf n
            obtain ⟨x, hx⟩ : ∃ x, D[n]?.getD 0 = x := ⟨_, rfl⟩
            rw [hx] at hce
            have hxb := u8_lt x
            obtain ⟨xi, hxi⟩ : ∃ y : Int, (x.toNat : Int) = y := ⟨_, rfl⟩
            simp only [B, hxi] at hce
            have hin : ¬ (23 : Int) ≤ (n : Int) := by omega
            go_upto_region 12 with fail
            refine region_plain (fun _ => True) [] (by kernel_rfl) ?_
            have q0 : (fun _ : World => True) w6.drew := trivial
            refine wpAnyD_take (i := 0) (v := .slice (some ⟨g, 0, none⟩) 23 xc6) rfl (by kernel_rfl) (by kernel_rfl) (by kernel_rfl) (by kernel_rfl) (by kernel_rfl) (fun _ _ _ h => h) (.inl ⟨by kernel_rfl, fun W' hS => by go_simp⟩) q0 ?_
            refine wpAnyD_take (i := 1) (v := .int .i64 (n : Nat)) rfl (by kernel_rfl) (by kernel_rfl) (by kernel_rfl) (by kernel_rfl) (by kernel_rfl) (fun _ _ _ h => h) (.inl ⟨by kernel_rfl, fun W' hS => by go_simp⟩) q0 ?_
            refine wpAnyD_take (i := 2) (v := .pointer (some ⟨g, n, none⟩)) rfl (by kernel_rfl) (by kernel_rfl) (by kernel_rfl) (by kernel_rfl) (by kernel_rfl) (fun _ _ _ h => h) (.inl ⟨by kernel_rfl, fun W' hS => by go_simp⟩) q0 ?_
            refine wpAnyD_take (i := 4) (v := .int .i64 (k : Nat)) rfl (by kernel_rfl) (by kernel_rfl) (by kernel_rfl) (by kernel_rfl) (by kernel_rfl) (fun _ _ _ h => h) (.inl ⟨by kernel_rfl, fun W' hS => by go_simp⟩) q0 ?_
            refine wpAnyD_take (i := 5) (v := .int .u8 (IntKind.u8.wrap (2 ^ k))) rfl (by kernel_rfl) (by kernel_rfl) (by kernel_rfl) (by kernel_rfl) (by kernel_rfl) (fun _ _ _ h => h) (.inl ⟨by kernel_rfl, fun W' hS => by go_simp⟩) q0 ?_
            obtain ⟨W0, hW0⟩ : ∃ Y, w6.drew = Y := ⟨_, rfl⟩
            have hk0 : Below w6.heap.size w6 W0 := hW0 ▸ (Below.refl _ w6).drew
            have hce0 : W0.cell? ⟨g, n, none⟩ = some (.int .u8 xi) := hW0 ▸ hce
            have hcf0 : W0.frozen? ⟨g, n, none⟩ = false := hW0 ▸ hcf
            rw [hW0] at q0 ⊢
            clear hW0 hce hcf
            refine wpAnyD_one (i := 3) (by kernel_rfl) rfl (by kernel_rfl) ?_
            go_simp
            obtain ⟨sh, hsh⟩ : ∃ y : Int, IntKind.u8.wrap (2 ^ k) = y := ⟨_, rfl⟩
            rw [hsh]
            clear hsh
            obtain ⟨hX0, hX1⟩ := bits_u8 .xor xi sh
            obtain ⟨X, hX⟩ : ∃ X, bits .xor .u8 xi sh = X := ⟨_, rfl⟩
            rw [hX] at hX0 hX1
            refine wpAnyD_take (i := 6) (v := .int .u8 X) rfl (by kernel_rfl) (by kernel_rfl) (by kernel_rfl) (by kernel_rfl) (by kernel_rfl) (fun _ _ _ h => h) (.inl ⟨by kernel_rfl, fun W' hS => by go_simp⟩) q0 ?_
            refine wpAnyD_take (i := 7) (v := .pointer (some ⟨g, n, none⟩)) rfl (by kernel_rfl) (by kernel_rfl) (by kernel_rfl) (by kernel_rfl) (by kernel_rfl) (fun _ _ _ h => h) (.inl ⟨by kernel_rfl, fun W' hS => by go_simp⟩) q0 ?_
            refine wpAnyD_one (i := 8) (by kernel_rfl) rfl (by kernel_rfl) ?_
            go_simp
            refine wpAnyD_done (by kernel_rfl) ?_ _
            have hXB : Value.int .u8 X = B (UInt8.ofNat X.toNat) := by
              have : ((UInt8.ofNat X.toNat).toNat : Int) = X := by rw [UInt8.toNat_ofNat']; omega
              unfold B; rw [this]
            have rq := ho6.below hk0 (Nat.le_refl _)
            replace rq := rq.set n (by rw [HDL.out]; exact hn23) (UInt8.ofNat X.toNat)
            rw [← hXB] at rq
            have rd7 := rd6.below hk0
            have ra7 := ra6.below hk0
            have rd : Row w3.heap.size w5.heap.size (W0.setCell ⟨g, n, none⟩ (.int .u8 X)) _ _ := ⟨rd7.own.kept (grownBy_setCell W0 g n _) (.inr fun e => by have := rd7.hi g e; omega), rd7.hi⟩
            have ra : Row w.heap.size w2.heap.size (W0.setCell ⟨g, n, none⟩ (.int .u8 X)) _ _ := ⟨ra7.own.kept (grownBy_setCell W0 g n _) (.inr fun e => by have := ra7.hi g e; omega), ra7.hi⟩
            have hk : Below w.heap.size w (W0.setCell ⟨g, n, none⟩ (.int .u8 X)) := (hk6'.trans (hk0.mono hs6)).setCell (p := ⟨g, n, none⟩) (show w.heap.size ≤ g by omega) _
            have hs7 : w6.heap.size ≤ (W0.setCell ⟨g, n, none⟩ (.int .u8 X)).heap.size := by have := hk0.size; simpa using this
            obtain ⟨W, hW⟩ : ∃ Y, W0.setCell ⟨g, n, none⟩ (.int .u8 X) = Y := ⟨_, rfl⟩
            obtain ⟨xa6, hxa6⟩ : ∃ Y, (some ⟨g, 0, none⟩ : Option Addr) = Y := ⟨_, rfl⟩
            obtain ⟨Dd, hDd⟩ : ∃ Y, D.set n (UInt8.ofNat X.toNat) = Y := ⟨_, rfl⟩
            have hDdl : Dd.length = 23 := by rw [← hDd, List.length_set]; exact HDL.out
            rw [hW] at rq rd ra hk hs7 ⊢
            rw [hxa6, hDd] at rq
            rw [hxa6]
            clear hxa6
            have hs : w.heap.size ≤ W.heap.size := by omega
            have rq := Row.mk' rq
            have hsW : w5.heap.size ≤ W.heap.size := by omega
            have hmeet : True := trivial
            clear hmeet q0 hk0 hce0 hcf0 hX0 hX1 hX hXB rd6 ra6 hk6' hs6 rd7 ra7 hW hDd hin hgcell hgf hxb hx hxi ho6 hgs hgb
            go_wp2_with fail
            obtain ⟨P, hP, hP2⟩ : ∃ P : Int, (#[.int .i64 (-1), .int .i64 0, .int .i64 1, .int .i64 5, .int .i64 11, .int .i64 40] : Array Value)[k]? = some (.int .i64 P) ∧ P ≤ 2 ^ 63 - 1 := by
              have hcs : k = 0 ∨ k = 1 ∨ k = 2 ∨ k = 3 ∨ k = 4 ∨ k = 5 := by omega
              rcases hcs with rfl | rfl | rfl | rfl | rfl | rfl
              · exact ⟨-1, rfl, by decide⟩
              · exact ⟨0, rfl, by decide⟩
              · exact ⟨1, rfl, by decide⟩
              · exact ⟨5, rfl, by decide⟩
              · exact ⟨11, rfl, by decide⟩
              · exact ⟨40, rfl, by decide⟩
            have hkI : ¬ (6 : Int) ≤ (k : Int) := by omega
            have hnc : n ≤ xc5 := by omega
            have hP2' := Lib.hid hP2
            clear hP2
            have hP2 := hP2'
            go_upto_region 13 with fail
            go_cut [9] from 50 to 57 (fun s9 wx => ∃ b9 P, s9 = .pointer (some ⟨b9, 0, none⟩) ∧ Blk wx b9 #[.slice xa5 n xc5, .int .i64 P] 28 ∧ Hid (P ≤ 2 ^ 63 - 1) ∧ Below W.heap.size W wx)
            case first =>
              refine region_plain (fun _ => True) [] (by kernel_rfl) ?_
              refine wpAnyD_take (i := 0) (v := .slice xa5 23 xc5) rfl (by kernel_rfl) (by kernel_rfl) (by kernel_rfl) (by kernel_rfl) (by kernel_rfl) (fun _ _ _ h => h) (.inl ⟨by kernel_rfl, fun W' hS => by go_simp⟩) trivial ?_
              refine wpAnyD_take (i := 1) (v := .int .i64 (n : Nat)) rfl (by kernel_rfl) (by kernel_rfl) (by kernel_rfl) (by kernel_rfl) (by kernel_rfl) (fun _ _ _ h => h) (.inl ⟨by kernel_rfl, fun W' hS => by go_simp⟩) trivial ?_
              refine wpAnyD_take (i := 2) (v := .slice xa5 n xc5) rfl (by kernel_rfl) (by kernel_rfl) (by kernel_rfl) (by kernel_rfl) (by kernel_rfl) (fun _ _ _ h => h) (.inl ⟨by kernel_rfl, fun W' hS => by go_simp⟩) trivial ?_
              refine wpAnyD_take (i := 4) (v := .int .i64 (k : Nat)) rfl (by kernel_rfl) (by kernel_rfl) (by kernel_rfl) (by kernel_rfl) (by kernel_rfl) (fun _ _ _ h => h) (.inl ⟨by kernel_rfl, fun W' hS => by go_simp⟩) trivial ?_
              obtain ⟨W0, hW0⟩ : ∃ Y, W.drew = Y := ⟨_, rfl⟩
              have kb : Below W.heap.size W W0 := hW0 ▸ (Below.refl _ W).drew
              rw [hW0]
              clear hW0
              have hs0 := kb.size
              refine wpAnyD_two (i := 3) (j := 8) (by kernel_rfl) rfl rfl (by kernel_rfl) (by kernel_rfl) ?_ ?_
              · go_simp
                have hcI : ((W0).alloc (.cells #[.int .i64 (-1), .int .i64 0, .int .i64 1, .int .i64 5, .int .i64 11, .int .i64 40] 3)).cell? ⟨(W0).heap.size, k, none⟩ = some (.int .i64 P) := (Blk.new (W0) _ _).at hP
                have kbI := kb.alloc (by omega) (.cells #[.int .i64 (-1), .int .i64 0, .int .i64 1, .int .i64 5, .int .i64 11, .int .i64 40] 3)
                obtain ⟨W1, hWW1⟩ : ∃ X, (W0).alloc (.cells #[.int .i64 (-1), .int .i64 0, .int .i64 1, .int .i64 5, .int .i64 11, .int .i64 40] 3) = X := ⟨_, rfl⟩
                have hsW1 : W0.heap.size + 1 = W1.heap.size := by rw [← hWW1]; simp
                obtain ⟨rI, hrI⟩ : ∃ X, W0.heap.size = X := ⟨_, rfl⟩
                rw [hWW1] at hcI kbI ⊢
                rw [hrI] at hcI ⊢
                replace kb := kbI
                clear hWW1 kbI
                refine wpAnyD_take (i := 5) (v := .pointer (some ⟨rI, k, none⟩)) rfl (by kernel_rfl) (by kernel_rfl) (by kernel_rfl) (by kernel_rfl) (by kernel_rfl) (fun _ _ _ h => h) (.inl ⟨by kernel_rfl, fun W' hS => by go_simp⟩) trivial ?_
                refine wpAnyD_two (i := 6) (j := 8) (by kernel_rfl) rfl rfl (by kernel_rfl) (by kernel_rfl) ?_ ?_
                · go_simp
                  refine wpAnyD_take (i := 7) (v := .agg #[.slice xa5 n xc5, .int .i64 P]) rfl (by kernel_rfl) (by kernel_rfl) (by kernel_rfl) (by kernel_rfl) (by kernel_rfl) (fun _ _ _ h => h) (.inl ⟨by kernel_rfl, fun W' hS => by go_simp⟩) trivial ?_
                  refine wpAnyD_one (i := 8) (by kernel_rfl) rfl (by kernel_rfl) ?_
                  go_simp
                  have ab := Blk.new W1 #[.slice none 0 0, .int .i64 0] 28
                  have kbB := kb.alloc (by omega) (.cells #[.slice none 0 0, .int .i64 0] 28)
                  obtain ⟨W2, hWW2⟩ : ∃ X, W1.alloc (.cells #[.slice none 0 0, .int .i64 0] 28) = X := ⟨_, rfl⟩
                  have hsW2 : W1.heap.size + 1 = W2.heap.size := by rw [← hWW2]; simp
                  have hrb : W.heap.size ≤ W1.heap.size := by omega
                  obtain ⟨b9, hb9⟩ : ∃ X, W1.heap.size = X := ⟨_, rfl⟩
                  rw [hWW2] at ab kbB ⊢
                  rw [hb9] at ab hrb hsW2 ⊢
                  replace kb := kbB
                  clear hWW2 kbB
                  obtain ⟨c0, c1, f0, f1⟩ := ab.two
                  refine wpAnyD_one (i := 9) (by kernel_rfl) rfl (by kernel_rfl) ?_
                  go_simp
                  obtain ⟨W9, hW9, ab9, hp9, _, hz9⟩ := put2 ab (.slice xa5 n xc5) (.int .i64 P)
                  rw [hW9]
                  refine wpAnyD_done (by kernel_rfl) ?_ _
                  go_wp2_with fail
                  go_meet
                  exact ⟨b9, P, rfl, ab9, hP2, kb.trans (hp9.mono hrb)⟩
                · go_simp
                  have ab := Blk.new W1 #[.slice none 0 0, .int .i64 0] 28
                  have kbB := kb.alloc (by omega) (.cells #[.slice none 0 0, .int .i64 0] 28)
                  have hcI2 : (W1.alloc (.cells #[.slice none 0 0, .int .i64 0] 28)).cell? ⟨rI, k, none⟩ = some (.int .i64 P) := (((Below.refl W1.heap.size W1).alloc (Nat.le_refl _) _).cell (p := ⟨rI, k, none⟩) (show rI < W1.heap.size by omega)).trans hcI
                  obtain ⟨W2, hWW2⟩ : ∃ X, W1.alloc (.cells #[.slice none 0 0, .int .i64 0] 28) = X := ⟨_, rfl⟩
                  have hsW2 : W1.heap.size + 1 = W2.heap.size := by rw [← hWW2]; simp
                  have hrb : W.heap.size ≤ W1.heap.size := by omega
                  obtain ⟨b9, hb9⟩ : ∃ X, W1.heap.size = X := ⟨_, rfl⟩
                  rw [hWW2] at ab kbB hcI2 ⊢
                  rw [hb9] at ab hrb hsW2 ⊢
                  replace kb := kbB
                  clear hWW2 kbB
                  replace hcI := hcI2
                  clear hcI2
                  refine wpAnyD_one (i := 6) (by kernel_rfl) rfl (by kernel_rfl) ?_
                  go_simp
                  refine wpAnyD_take (i := 7) (v := .agg #[.slice xa5 n xc5, .int .i64 P]) rfl (by kernel_rfl) (by kernel_rfl) (by kernel_rfl) (by kernel_rfl) (by kernel_rfl) (fun _ _ _ h => h) (.inl ⟨by kernel_rfl, fun W' hS => by go_simp⟩) trivial ?_
                  obtain ⟨c0, c1, f0, f1⟩ := ab.two
                  refine wpAnyD_one (i := 9) (by kernel_rfl) rfl (by kernel_rfl) ?_
                  go_simp
                  obtain ⟨W9, hW9, ab9, hp9, _, hz9⟩ := put2 ab (.slice xa5 n xc5) (.int .i64 P)
                  rw [hW9]
                  refine wpAnyD_done (by kernel_rfl) ?_ _
                  go_wp2_with fail
                  go_meet
                  exact ⟨b9, P, rfl, ab9, hP2, kb.trans (hp9.mono hrb)⟩
              · go_simp
                have ab := Blk.new W0 #[.slice none 0 0, .int .i64 0] 28
                have kbB := kb.alloc (by omega) (.cells #[.slice none 0 0, .int .i64 0] 28)
                obtain ⟨W1, hWW1⟩ : ∃ X, W0.alloc (.cells #[.slice none 0 0, .int .i64 0] 28) = X := ⟨_, rfl⟩
                have hsW1 : W0.heap.size + 1 = W1.heap.size := by rw [← hWW1]; simp
                have hrb : W.heap.size ≤ W0.heap.size := by omega
                obtain ⟨b9, hb9⟩ : ∃ X, W0.heap.size = X := ⟨_, rfl⟩
                rw [hWW1] at ab kbB ⊢
                rw [hb9] at ab hrb hsW1 ⊢
                replace kb := kbB
                clear hWW1 kbB
                refine wpAnyD_one (i := 3) (by kernel_rfl) rfl (by kernel_rfl) ?_
                go_simp
                have hcI : ((W1).alloc (.cells #[.int .i64 (-1), .int .i64 0, .int .i64 1, .int .i64 5, .int .i64 11, .int .i64 40] 3)).cell? ⟨(W1).heap.size, k, none⟩ = some (.int .i64 P) := (Blk.new (W1) _ _).at hP
                have kbI := kb.alloc (by omega) (.cells #[.int .i64 (-1), .int .i64 0, .int .i64 1, .int .i64 5, .int .i64 11, .int .i64 40] 3)
                obtain ⟨W2, hWW2⟩ : ∃ X, (W1).alloc (.cells #[.int .i64 (-1), .int .i64 0, .int .i64 1, .int .i64 5, .int .i64 11, .int .i64 40] 3) = X := ⟨_, rfl⟩
                have hsW2 : W1.heap.size + 1 = W2.heap.size := by rw [← hWW2]; simp
                obtain ⟨rI, hrI⟩ : ∃ X, W1.heap.size = X := ⟨_, rfl⟩
                have ab2 := ab.alloc (.cells #[.int .i64 (-1), .int .i64 0, .int .i64 1, .int .i64 5, .int .i64 11, .int .i64 40] 3)
                rw [hWW2] at hcI kbI ab2 ⊢
                rw [hrI] at hcI ⊢
                replace kb := kbI
                clear hWW2 kbI
                replace ab := ab2
                refine wpAnyD_take (i := 5) (v := .pointer (some ⟨rI, k, none⟩)) rfl (by kernel_rfl) (by kernel_rfl) (by kernel_rfl) (by kernel_rfl) (by kernel_rfl) (fun _ _ _ h => h) (.inl ⟨by kernel_rfl, fun W' hS => by go_simp⟩) trivial ?_
                refine wpAnyD_one (i := 6) (by kernel_rfl) rfl (by kernel_rfl) ?_
                go_simp
                refine wpAnyD_take (i := 7) (v := .agg #[.slice xa5 n xc5, .int .i64 P]) rfl (by kernel_rfl) (by kernel_rfl) (by kernel_rfl) (by kernel_rfl) (by kernel_rfl) (fun _ _ _ h => h) (.inl ⟨by kernel_rfl, fun W' hS => by go_simp⟩) trivial ?_
                obtain ⟨c0, c1, f0, f1⟩ := ab.two
                refine wpAnyD_one (i := 9) (by kernel_rfl) rfl (by kernel_rfl) ?_
                go_simp
                obtain ⟨W9, hW9, ab9, hp9, _, hz9⟩ := put2 ab (.slice xa5 n xc5) (.int .i64 P)
                rw [hW9]
                refine wpAnyD_done (by kernel_rfl) ?_ _
                go_wp2_with fail
                go_meet
                exact ⟨b9, P, rfl, ab9, hP2, kb.trans (hp9.mono hrb)⟩
            case rest =>
              obtain ⟨wa, rfl⟩ : ∃ Y : World, Y = wc := ⟨_, rfl⟩
              obtain ⟨b9, P, rfl, q9, hP3, hbx⟩ := hcut
              replace rd := rd.below hbx
              replace ra := ra.below hbx
              replace rq := rq.below hbx
              replace hk := hk.trans (hbx.mono hs)
              replace hs := Nat.le_trans hs hbx.size
              replace hsW := Nat.le_trans hsW hbx.size
              clear hbx hP hP2 hP2'
              have hk2c : k * 2 ≤ xc5 := by omega
              have hkac : k ≤ ac := by omega
              have hw1 : IntKind.i64.wrap ((k : Int) * 2) = (k : Int) * 2 := IntWalk.i64_in _ (by omega)
              have hw2 : IntKind.i64.wrap ((n : Int) - 1) = (n : Int) - 1 := IntWalk.i64_in _ (by omega)
              have hw3 : IntKind.i64.wrap ((n : Int) + 1) = (n : Int) + 1 := IntWalk.i64_in _ (by omega)
              have hw4 : IntKind.i64.wrap ((n : Int) / 13) = (n : Int) / 13 := IntWalk.i64_in _ (by omega)
              have hw6 : IntKind.i64.wrap ((k : Int) - 2) = (k : Int) - 2 := IntWalk.i64_in _ (by omega)
              have hw7 : IntKind.i64.wrap (2 + (k : Int) % 2) = 2 + (k : Int) % 2 := IntWalk.i64_in _ (by omega)
              have hc1 : 0 ≤ (k : Int) * 2 := by omega
              have hc2 : (k : Int) * 2 ≤ (xc5 : Int) := by omega
              have htn : ((k : Int) * 2).toNat = k * 2 := by omega
              have htd : (n : Int).tdiv 13 = (n : Int) / 13 := Int.tdiv_eq_ediv_of_nonneg (by omega)
              have htm : (k : Int).tmod 2 = (k : Int) % 2 := Int.tmod_eq_emod_of_nonneg (by omega)
              go_upto_region 14 with fail
              refine region_plain (S1 b9 #[.slice xa5 n xc5, .int .i64 P] 28) [] (by kernel_rfl) ?_
              obtain ⟨X0, hX0⟩ : ∃ Y, wa.drew = Y := ⟨_, rfl⟩
              have hd0 : Below wa.heap.size wa X0 := hX0 ▸ (Below.refl _ wa).drew
              have s0 : S1 b9 #[.slice xa5 n xc5, .int .i64 P] 28 X0 := hX0 ▸ q9
              rw [hX0]
              clear hX0
              replace rd := rd.below hd0
              replace ra := ra.below hd0
              replace rq := rq.below hd0
              replace hk := hk.trans (hd0.mono hs)
              replace hs := Nat.le_trans hs hd0.size
              replace hsW := Nat.le_trans hsW hd0.size
              refine wpAnyD_take (i := 0) (v := .agg #[.slice xa5 n xc5, .int .i64 P]) rfl (by kernel_rfl) (by kernel_rfl) (by kernel_rfl) (by kernel_rfl) (by kernel_rfl) (fun _ _ _ h => h) (.inl ⟨by kernel_rfl, fun W' hS => by obtain ⟨c0, c1, f0, f1⟩ := Blk.two (show Blk W' b9 _ _ from hS); go_simp⟩) s0 ?_
              refine wpAnyD_take (i := 1) (v := .slice xa5 23 xc5) rfl (by kernel_rfl) (by kernel_rfl) (by kernel_rfl) (by kernel_rfl) (by kernel_rfl) (fun _ _ _ h => h) (.inl ⟨by kernel_rfl, fun W' hS => by go_simp⟩) s0 ?_
              refine wpAnyD_take (i := 2) (v := .int .i64 (k : Nat)) rfl (by kernel_rfl) (by kernel_rfl) (by kernel_rfl) (by kernel_rfl) (by kernel_rfl) (fun _ _ _ h => h) (.inl ⟨by kernel_rfl, fun W' hS => by go_simp⟩) s0 ?_
              refine wpAnyD_take (i := 3) (v := .int .i64 ((k : Int) * 2)) rfl (by kernel_rfl) (by kernel_rfl) (by kernel_rfl) (by kernel_rfl) (by kernel_rfl) (fun _ _ _ h => h) (.inl ⟨by kernel_rfl, fun W' hS => by go_simp⟩) s0 ?_
              refine wpAnyD_take (i := 4) (v := .slice xa5 (k * 2) xc5) rfl (by kernel_rfl) (by kernel_rfl) (by kernel_rfl) (by kernel_rfl) (by kernel_rfl) (fun _ _ _ h => h) (.inl ⟨by kernel_rfl, fun W' hS => by go_simp⟩) s0 ?_
              refine wpAnyD_take (i := 5) (v := .int .i64 (n : Nat)) rfl (by kernel_rfl) (by kernel_rfl) (by kernel_rfl) (by kernel_rfl) (by kernel_rfl) (fun _ _ _ h => h) (.inl ⟨by kernel_rfl, fun W' hS => by go_simp⟩) s0 ?_
              refine wpAnyD_take (i := 6) (v := .int .i64 ((n : Int) - 1)) rfl (by kernel_rfl) (by kernel_rfl) (by kernel_rfl) (by kernel_rfl) (by kernel_rfl) (fun _ _ _ h => h) (.inl ⟨by kernel_rfl, fun W' hS => by go_simp⟩) s0 ?_
              refine wpAnyD_one (i := 7) (by kernel_rfl) rfl (by kernel_rfl) ?_
              go_simp
              refine (stores_any _ _ ⟨D.take n, P⟩ (D.take (k * 2)) _ X0 (Byts.take (cap := xc5) (by rw [HDL.out]; exact rd.own.byts) n (by rw [HDL.out]; omega)) (Byts.take (cap := xc5) (by rw [HDL.out]; exact rd.own.byts) (k * 2) (by rw [HDL.out]; omega)) hP3.out (by simp; omega) (by simp; omega)).mono ?_
              rintro e X1 ⟨rfl, hbX1⟩
              have s1 : S1 b9 #[.slice xa5 n xc5, .int .i64 P] 28 X1 := Blk.below s0 hbX1 (Blk.lt s0)
              replace rd := rd.below hbX1
              replace ra := ra.below hbX1
              replace rq := rq.below hbX1
              replace hk := hk.trans (hbX1.mono hs)
              replace hs := Nat.le_trans hs hbX1.size
              replace hsW := Nat.le_trans hsW hbX1.size
              refine ⟨s1, ?_⟩
              clear hbX1
              refine wpAnyD_take (i := 8) (v := .bool false) rfl (by kernel_rfl) (by kernel_rfl) (by kernel_rfl) (by kernel_rfl) (by kernel_rfl) (fun _ _ _ h => h) (.inl ⟨by kernel_rfl, fun W' hS => by go_simp⟩) s1 ?_
              refine wpAnyD_take (i := 9) (v := .bool false) rfl (by kernel_rfl) (by kernel_rfl) (by kernel_rfl) (by kernel_rfl) (by kernel_rfl) (fun _ _ _ h => h) (.inl ⟨by kernel_rfl, fun W' hS => by go_simp⟩) s1 ?_
              refine wpAnyD_take (i := 10) (v := .slice xa6 23 xc6) rfl (by kernel_rfl) (by kernel_rfl) (by kernel_rfl) (by kernel_rfl) (by kernel_rfl) (fun _ _ _ h => h) (.inl ⟨by kernel_rfl, fun W' hS => by go_simp⟩) s1 ?_
              refine wpAnyD_take (i := 11) (v := .agg #[.slice xa6 23 xc6, .int .i64 (-1)]) rfl (by kernel_rfl) (by kernel_rfl) (by kernel_rfl) (by kernel_rfl) (by kernel_rfl) (fun _ _ _ h => h) (.inl ⟨by kernel_rfl, fun W' hS => by go_simp⟩) s1 ?_
              refine wpAnyD_take (i := 12) (v := .slice aa 13 ac) rfl (by kernel_rfl) (by kernel_rfl) (by kernel_rfl) (by kernel_rfl) (by kernel_rfl) (fun _ _ _ h => h) (.inl ⟨by kernel_rfl, fun W' hS => by go_simp⟩) s1 ?_
              refine wpAnyD_take (i := 13) (v := .int .i64 (n : Nat)) rfl (by kernel_rfl) (by kernel_rfl) (by kernel_rfl) (by kernel_rfl) (by kernel_rfl) (fun _ _ _ h => h) (.inl ⟨by kernel_rfl, fun W' hS => by go_simp⟩) s1 ?_
              refine wpAnyD_take (i := 14) (v := .int .i64 ((n : Int) + 1)) rfl (by kernel_rfl) (by kernel_rfl) (by kernel_rfl) (by kernel_rfl) (by kernel_rfl) (fun _ _ _ h => h) (.inl ⟨by kernel_rfl, fun W' hS => by go_simp⟩) s1 ?_
              refine wpAnyD_one (i := 15) (by kernel_rfl) rfl (by kernel_rfl) ?_
              go_simp
              refine (stores_any _ _ ⟨Dd, -1⟩ A _ X1 rq.own.byts ra.own.byts (by show (-1 : Int) ≤ 2 ^ 63 - 1; decide) (by show Dd.length ≤ _; rw [hDdl]; decide) (by rw [HAL.out]; decide)).mono ?_
              rintro e X2 ⟨rfl, hbX2⟩
              have s2 : S1 b9 #[.slice xa5 n xc5, .int .i64 P] 28 X2 := Blk.below s1 hbX2 (Blk.lt s1)
              replace rd := rd.below hbX2
              replace ra := ra.below hbX2
              replace rq := rq.below hbX2
              replace hk := hk.trans (hbX2.mono hs)
              replace hs := Nat.le_trans hs hbX2.size
              replace hsW := Nat.le_trans hsW hbX2.size
              refine ⟨s2, ?_⟩
              clear hbX2
              refine wpAnyD_take (i := 16) (v := .bool false) rfl (by kernel_rfl) (by kernel_rfl) (by kernel_rfl) (by kernel_rfl) (by kernel_rfl) (fun _ _ _ h => h) (.inl ⟨by kernel_rfl, fun W' hS => by go_simp⟩) s2 ?_
              refine wpAnyD_take (i := 17) (v := .bool false) rfl (by kernel_rfl) (by kernel_rfl) (by kernel_rfl) (by kernel_rfl) (by kernel_rfl) (fun _ _ _ h => h) (.inl ⟨by kernel_rfl, fun W' hS => by go_simp⟩) s2 ?_
              refine wpAnyD_take (i := 18) (v := .bool false) rfl (by kernel_rfl) (by kernel_rfl) (by kernel_rfl) (by kernel_rfl) (by kernel_rfl) (fun _ _ _ h => h) (.inl ⟨by kernel_rfl, fun W' hS => by go_simp⟩) s2 ?_
              refine wpAnyD_take (i := 19) (v := .agg #[.slice xa5 n xc5, .int .i64 P]) rfl (by kernel_rfl) (by kernel_rfl) (by kernel_rfl) (by kernel_rfl) (by kernel_rfl) (fun _ _ _ h => h) (.inl ⟨by kernel_rfl, fun W' hS => by obtain ⟨c0, c1, f0, f1⟩ := Blk.two (show Blk W' b9 _ _ from hS); go_simp⟩) s2 ?_
              refine wpAnyD_take (i := 20) (v := .int .i64 (n : Nat)) rfl (by kernel_rfl) (by kernel_rfl) (by kernel_rfl) (by kernel_rfl) (by kernel_rfl) (fun _ _ _ h => h) (.inl ⟨by kernel_rfl, fun W' hS => by go_simp⟩) s2 ?_
              refine wpAnyD_take (i := 21) (v := .int .i64 ((n : Int) / 13)) rfl (by kernel_rfl) (by kernel_rfl) (by kernel_rfl) (by kernel_rfl) (by kernel_rfl) (fun _ _ _ h => h) (.inl ⟨by kernel_rfl, fun W' hS => by go_simp⟩) s2 ?_
              refine wpAnyD_take (i := 22) (v := .int .i64 (k : Nat)) rfl (by kernel_rfl) (by kernel_rfl) (by kernel_rfl) (by kernel_rfl) (by kernel_rfl) (fun _ _ _ h => h) (.inl ⟨by kernel_rfl, fun W' hS => by go_simp⟩) s2 ?_
              refine wpAnyD_take (i := 23) (v := .int .i64 ((k : Int) % 2)) rfl (by kernel_rfl) (by kernel_rfl) (by kernel_rfl) (by kernel_rfl) (by kernel_rfl) (fun _ _ _ h => h) (.inl ⟨by kernel_rfl, fun W' hS => by go_simp⟩) s2 ?_
              refine wpAnyD_take (i := 24) (v := .bool ((k : Int) % 2 == 1)) rfl (by kernel_rfl) (by kernel_rfl) (by kernel_rfl) (by kernel_rfl) (by kernel_rfl) (fun _ _ _ h => h) (.inl ⟨by kernel_rfl, fun W' hS => by go_simp⟩) s2 ?_
              refine wpAnyD_take (i := 25) (v := .agg #[.slice xa5 n xc5, .int .i64 P, .int .i64 ((n : Int) / 13), .bool ((k : Int) % 2 == 1)]) rfl (by kernel_rfl) (by kernel_rfl) (by kernel_rfl) (by kernel_rfl) (by kernel_rfl) (fun _ _ _ h => h) (.inl ⟨by kernel_rfl, fun W' hS => by go_simp⟩) s2 ?_
              refine wpAnyD_take (i := 26) (v := .slice aa 13 ac) rfl (by kernel_rfl) (by kernel_rfl) (by kernel_rfl) (by kernel_rfl) (by kernel_rfl) (fun _ _ _ h => h) (.inl ⟨by kernel_rfl, fun W' hS => by go_simp⟩) s2 ?_
              refine wpAnyD_take (i := 27) (v := .int .i64 (k : Nat)) rfl (by kernel_rfl) (by kernel_rfl) (by kernel_rfl) (by kernel_rfl) (by kernel_rfl) (fun _ _ _ h => h) (.inl ⟨by kernel_rfl, fun W' hS => by go_simp⟩) s2 ?_
              refine wpAnyD_take (i := 28) (v := .slice aa k ac) rfl (by kernel_rfl) (by kernel_rfl) (by kernel_rfl) (by kernel_rfl) (by kernel_rfl) (fun _ _ _ h => h) (.inl ⟨by kernel_rfl, fun W' hS => by go_simp⟩) s2 ?_
              refine wpAnyD_take (i := 29) (v := .int .i64 (k : Nat)) rfl (by kernel_rfl) (by kernel_rfl) (by kernel_rfl) (by kernel_rfl) (by kernel_rfl) (fun _ _ _ h => h) (.inl ⟨by kernel_rfl, fun W' hS => by go_simp⟩) s2 ?_
              refine wpAnyD_take (i := 30) (v := .int .i64 ((k : Int) - 2)) rfl (by kernel_rfl) (by kernel_rfl) (by kernel_rfl) (by kernel_rfl) (by kernel_rfl) (fun _ _ _ h => h) (.inl ⟨by kernel_rfl, fun W' hS => by go_simp⟩) s2 ?_
              refine wpAnyD_one (i := 31) (by kernel_rfl) rfl (by kernel_rfl) ?_
              go_simp
              refine (logs_any _ _ ⟨⟨D.take n, P⟩, (n : Int) / 13, (k : Int) % 2 == 1⟩ (A.take k) _ X2 (Byts.take (cap := xc5) (by rw [HDL.out]; exact rd.own.byts) n (by rw [HDL.out]; omega)) (Byts.take (cap := ac) (by rw [HAL.out]; exact ra.own.byts) k (by rw [HAL.out]; omega)) hP3.out (by simp; omega) (by simp; omega)).mono ?_
              rintro e X3 ⟨rfl, hbX3⟩
              have s3 : S1 b9 #[.slice xa5 n xc5, .int .i64 P] 28 X3 := Blk.below s2 hbX3 (Blk.lt s2)
              replace rd := rd.below hbX3
              replace ra := ra.below hbX3
              replace rq := rq.below hbX3
              replace hk := hk.trans (hbX3.mono hs)
              replace hs := Nat.le_trans hs hbX3.size
              replace hsW := Nat.le_trans hsW hbX3.size
              refine ⟨s3, ?_⟩
              clear hbX3
              refine wpAnyD_take (i := 32) (v := .bool false) rfl (by kernel_rfl) (by kernel_rfl) (by kernel_rfl) (by kernel_rfl) (by kernel_rfl) (fun _ _ _ h => h) (.inl ⟨by kernel_rfl, fun W' hS => by go_simp⟩) s3 ?_
              refine wpAnyD_take (i := 33) (v := .bool false) rfl (by kernel_rfl) (by kernel_rfl) (by kernel_rfl) (by kernel_rfl) (by kernel_rfl) (fun _ _ _ h => h) (.inl ⟨by kernel_rfl, fun W' hS => by go_simp⟩) s3 ?_
              refine wpAnyD_done (by kernel_rfl) ?_ _
              clear s0 s1 s2 s3 q9 hd0
              have h13 : 13 ≤ xc5 := by omega
              go_upto_region 17 with fail
              have q10 := Blk.new X3 #[.slice xa5 13 xc5, .int .i64 (n : Nat), .int .i64 1, .bool false] 32
              have hka : Below X3.heap.size X3 (X3.alloc (.cells #[.slice xa5 13 xc5, .int .i64 (n : Nat), .int .i64 1, .bool false] 32)) := (Below.refl _ X3).alloc (Nat.le_refl _) _
              replace rd := rd.below hka
              replace ra := ra.below hka
              replace rq := rq.below hka
              replace hk := hk.trans (hka.mono hs)
              replace hs := Nat.le_trans hs hka.size
              replace hsW := Nat.le_trans hsW hka.size
              obtain ⟨X4, hX4⟩ : ∃ Y, X3.alloc (.cells #[.slice xa5 13 xc5, .int .i64 (n : Nat), .int .i64 1, .bool false] 32) = Y := ⟨_, rfl⟩
              obtain ⟨b10, hb10⟩ : ∃ Y, X3.heap.size = Y := ⟨_, rfl⟩
              rw [hX4] at rd ra rq hk hs hsW q10 ⊢
              rw [hb10] at q10 ⊢
              clear hX4 hb10 hka
              refine region_plain (S1 b10 #[.slice xa5 13 xc5, .int .i64 (n : Nat), .int .i64 1, .bool false] 32) [] (by kernel_rfl) ?_
              obtain ⟨X5, hX5⟩ : ∃ Y, X4.drew = Y := ⟨_, rfl⟩
              have hd1 : Below X4.heap.size X4 X5 := hX5 ▸ (Below.refl _ X4).drew
              have s4 : S1 b10 #[.slice xa5 13 xc5, .int .i64 (n : Nat), .int .i64 1, .bool false] 32 X5 := hX5 ▸ q10
              rw [hX5]
              clear hX5
              replace rd := rd.below hd1
              replace ra := ra.below hd1
              replace rq := rq.below hd1
              replace hk := hk.trans (hd1.mono hs)
              replace hs := Nat.le_trans hs hd1.size
              replace hsW := Nat.le_trans hsW hd1.size
              refine wpAnyD_take (i := 0) (v := .agg #[.slice xa5 13 xc5, .int .i64 (n : Nat), .int .i64 1, .bool false]) rfl (by kernel_rfl) (by kernel_rfl) (by kernel_rfl) (by kernel_rfl) (by kernel_rfl) (fun _ _ _ h => h) (.inl ⟨by kernel_rfl, fun W' hS => by obtain ⟨c0, c1, c2, c3, f0, f1, f2, f3⟩ := Blk.four (show Blk W' b10 _ _ from hS); go_simp⟩) s4 ?_
              refine wpAnyD_take (i := 1) (v := .slice aa 13 ac) rfl (by kernel_rfl) (by kernel_rfl) (by kernel_rfl) (by kernel_rfl) (by kernel_rfl) (fun _ _ _ h => h) (.inl ⟨by kernel_rfl, fun W' hS => by go_simp⟩) s4 ?_
              refine wpAnyD_take (i := 2) (v := .int .i64 (k : Nat)) rfl (by kernel_rfl) (by kernel_rfl) (by kernel_rfl) (by kernel_rfl) (by kernel_rfl) (fun _ _ _ h => h) (.inl ⟨by kernel_rfl, fun W' hS => by go_simp⟩) s4 ?_
              refine wpAnyD_take (i := 3) (v := .slice aa k ac) rfl (by kernel_rfl) (by kernel_rfl) (by kernel_rfl) (by kernel_rfl) (by kernel_rfl) (fun _ _ _ h => h) (.inl ⟨by kernel_rfl, fun W' hS => by go_simp⟩) s4 ?_
              refine wpAnyD_one (i := 4) (by kernel_rfl) rfl (by kernel_rfl) ?_
              go_simp
              refine (logs_any _ _ ⟨⟨D.take 13, (n : Nat)⟩, 1, false⟩ (A.take k) _ X5 (Byts.take (cap := xc5) (by rw [HDL.out]; exact rd.own.byts) 13 (by rw [HDL.out]; omega)) (Byts.take (cap := ac) (by rw [HAL.out]; exact ra.own.byts) k (by rw [HAL.out]; omega)) (by show ((n : Nat) : Int) ≤ 2 ^ 63 - 1; omega) (by simp; omega) (by simp; omega)).mono ?_
              rintro e X6 ⟨rfl, hbX6⟩
              have s5 : S1 b10 #[.slice xa5 13 xc5, .int .i64 (n : Nat), .int .i64 1, .bool false] 32 X6 := Blk.below s4 hbX6 (Blk.lt s4)
              replace rd := rd.below hbX6
              replace ra := ra.below hbX6
              replace rq := rq.below hbX6
              replace hk := hk.trans (hbX6.mono hs)
              replace hs := Nat.le_trans hs hbX6.size
              replace hsW := Nat.le_trans hsW hbX6.size
              refine ⟨s5, ?_⟩
              clear hbX6
              refine wpAnyD_take (i := 5) (v := .bool false) rfl (by kernel_rfl) (by kernel_rfl) (by kernel_rfl) (by kernel_rfl) (by kernel_rfl) (fun _ _ _ h => h) (.inl ⟨by kernel_rfl, fun W' hS => by go_simp⟩) s5 ?_
              refine wpAnyD_take (i := 6) (v := .bool false) rfl (by kernel_rfl) (by kernel_rfl) (by kernel_rfl) (by kernel_rfl) (by kernel_rfl) (fun _ _ _ h => h) (.inl ⟨by kernel_rfl, fun W' hS => by go_simp⟩) s5 ?_
              refine wpAnyD_take (i := 7) (v := .slice xa5 23 xc5) rfl (by kernel_rfl) (by kernel_rfl) (by kernel_rfl) (by kernel_rfl) (by kernel_rfl) (fun _ _ _ h => h) (.inl ⟨by kernel_rfl, fun W' hS => by go_simp⟩) s5 ?_
              refine wpAnyD_take (i := 8) (v := .agg #[.slice xa5 23 xc5, .int .i64 (-1)]) rfl (by kernel_rfl) (by kernel_rfl) (by kernel_rfl) (by kernel_rfl) (by kernel_rfl) (fun _ _ _ h => h) (.inl ⟨by kernel_rfl, fun W' hS => by go_simp⟩) s5 ?_
              refine wpAnyD_take (i := 9) (v := .int .i64 (k : Nat)) rfl (by kernel_rfl) (by kernel_rfl) (by kernel_rfl) (by kernel_rfl) (by kernel_rfl) (fun _ _ _ h => h) (.inl ⟨by kernel_rfl, fun W' hS => by go_simp⟩) s5 ?_
              refine wpAnyD_take (i := 10) (v := .int .i64 ((k : Int) % 2)) rfl (by kernel_rfl) (by kernel_rfl) (by kernel_rfl) (by kernel_rfl) (by kernel_rfl) (fun _ _ _ h => h) (.inl ⟨by kernel_rfl, fun W' hS => by go_simp⟩) s5 ?_
              refine wpAnyD_take (i := 11) (v := .int .i64 (2 + (k : Int) % 2)) rfl (by kernel_rfl) (by kernel_rfl) (by kernel_rfl) (by kernel_rfl) (by kernel_rfl) (fun _ _ _ h => h) (.inl ⟨by kernel_rfl, fun W' hS => by go_simp⟩) s5 ?_
              refine wpAnyD_take (i := 12) (v := .agg #[.slice xa5 23 xc5, .int .i64 (-1), .int .i64 (2 + (k : Int) % 2), .bool false]) rfl (by kernel_rfl) (by kernel_rfl) (by kernel_rfl) (by kernel_rfl) (by kernel_rfl) (fun _ _ _ h => h) (.inl ⟨by kernel_rfl, fun W' hS => by go_simp⟩) s5 ?_
              refine wpAnyD_take (i := 13) (v := .slice aa 13 ac) rfl (by kernel_rfl) (by kernel_rfl) (by kernel_rfl) (by kernel_rfl) (by kernel_rfl) (fun _ _ _ h => h) (.inl ⟨by kernel_rfl, fun W' hS => by go_simp⟩) s5 ?_
              refine wpAnyD_take (i := 14) (v := .int .i64 (k : Nat)) rfl (by kernel_rfl) (by kernel_rfl) (by kernel_rfl) (by kernel_rfl) (by kernel_rfl) (fun _ _ _ h => h) (.inl ⟨by kernel_rfl, fun W' hS => by go_simp⟩) s5 ?_
              refine wpAnyD_take (i := 15) (v := .slice aa k ac) rfl (by kernel_rfl) (by kernel_rfl) (by kernel_rfl) (by kernel_rfl) (by kernel_rfl) (fun _ _ _ h => h) (.inl ⟨by kernel_rfl, fun W' hS => by go_simp⟩) s5 ?_
              refine wpAnyD_one (i := 16) (by kernel_rfl) rfl (by kernel_rfl) ?_
              go_simp
              refine (logs_any _ _ ⟨⟨D, -1⟩, 2 + (k : Int) % 2, false⟩ (A.take k) _ X6 (rd.own.byts) (Byts.take (cap := ac) (by rw [HAL.out]; exact ra.own.byts) k (by rw [HAL.out]; omega)) (by show (-1 : Int) ≤ 2 ^ 63 - 1; decide) (by show D.length ≤ _; rw [HDL.out]; decide) (by simp; omega)).mono ?_
              rintro e X7 ⟨rfl, hbX7⟩
              have s6 : S1 b10 #[.slice xa5 13 xc5, .int .i64 (n : Nat), .int .i64 1, .bool false] 32 X7 := Blk.below s5 hbX7 (Blk.lt s5)
              replace rd := rd.below hbX7
              replace ra := ra.below hbX7
              replace rq := rq.below hbX7
              replace hk := hk.trans (hbX7.mono hs)
              replace hs := Nat.le_trans hs hbX7.size
              replace hsW := Nat.le_trans hsW hbX7.size
              refine ⟨s6, ?_⟩
              clear hbX7
              refine wpAnyD_take (i := 17) (v := .bool false) rfl (by kernel_rfl) (by kernel_rfl) (by kernel_rfl) (by kernel_rfl) (by kernel_rfl) (fun _ _ _ h => h) (.inl ⟨by kernel_rfl, fun W' hS => by go_simp⟩) s6 ?_
              refine wpAnyD_take (i := 18) (v := .bool false) rfl (by kernel_rfl) (by kernel_rfl) (by kernel_rfl) (by kernel_rfl) (by kernel_rfl) (fun _ _ _ h => h) (.inl ⟨by kernel_rfl, fun W' hS => by go_simp⟩) s6 ?_
              refine wpAnyD_done (by kernel_rfl) ?_ _
              clear s4 s5 s6 q10 hd1
              go_wp2_with fail
              go_roundw
              case rel => exact ⟨k + 1, by omega, by go_num, rd, ra, hk, hsW⟩
              case measure => simp [intOf]; omega
          · have hn23' : n = 23 := by omega
            have tn3 : decide ((n : Int) < (23 : Int)) = false := by simp; omega
            have rq := Row.mk' ho6
            have rd := rd6
            have ra := ra6
            have hk := hk6'
            have hs := hs6
            obtain ⟨Dd, hDd⟩ : ∃ Y, D = Y := ⟨_, rfl⟩
            have hDdl : Dd.length = 23 := by rw [← hDd]; exact HDL.out
            rw [hDd] at rq
            obtain ⟨W, rfl⟩ : ∃ Y : World, Y = w6 := ⟨_, rfl⟩
            have hsW : w5.heap.size ≤ W.heap.size := by omega
            clear hDd rd6 ra6 hk6' hs6 ho6 hn23'
            go_wp2_with fail
            obtain ⟨P, hP, hP2⟩ : ∃ P : Int, (#[.int .i64 (-1), .int .i64 0, .int .i64 1, .int .i64 5, .int .i64 11, .int .i64 40] : Array Value)[k]? = some (.int .i64 P) ∧ P ≤ 2 ^ 63 - 1 := by
              have hcs : k = 0 ∨ k = 1 ∨ k = 2 ∨ k = 3 ∨ k = 4 ∨ k = 5 := by omega
              rcases hcs with rfl | rfl | rfl | rfl | rfl | rfl
              · exact ⟨-1, rfl, by decide⟩
              · exact ⟨0, rfl, by decide⟩
              · exact ⟨1, rfl, by decide⟩
              · exact ⟨5, rfl, by decide⟩
              · exact ⟨11, rfl, by decide⟩
              · exact ⟨40, rfl, by decide⟩
            have hkI : ¬ (6 : Int) ≤ (k : Int) := by omega
            have hnc : n ≤ xc5 := by omega
            have hP2' := Lib.hid hP2
            clear hP2
            have hP2 := hP2'
            go_upto_region 13 with fail
            go_cut [9] from 50 to 57 (fun s9 wx => ∃ b9 P, s9 = .pointer (some ⟨b9, 0, none⟩) ∧ Blk wx b9 #[.slice xa5 n xc5, .int .i64 P] 28 ∧ Hid (P ≤ 2 ^ 63 - 1) ∧ Below W.heap.size W wx)
            case first =>
              refine region_plain (fun _ => True) [] (by kernel_rfl) ?_
              refine wpAnyD_take (i := 0) (v := .slice xa5 23 xc5) rfl (by kernel_rfl) (by kernel_rfl) (by kernel_rfl) (by kernel_rfl) (by kernel_rfl) (fun _ _ _ h => h) (.inl ⟨by kernel_rfl, fun W' hS => by go_simp⟩) trivial ?_
              refine wpAnyD_take (i := 1) (v := .int .i64 (n : Nat)) rfl (by kernel_rfl) (by kernel_rfl) (by kernel_rfl) (by kernel_rfl) (by kernel_rfl) (fun _ _ _ h => h) (.inl ⟨by kernel_rfl, fun W' hS => by go_simp⟩) trivial ?_
              refine wpAnyD_take (i := 2) (v := .slice xa5 n xc5) rfl (by kernel_rfl) (by kernel_rfl) (by kernel_rfl) (by kernel_rfl) (by kernel_rfl) (fun _ _ _ h => h) (.inl ⟨by kernel_rfl, fun W' hS => by go_simp⟩) trivial ?_
              refine wpAnyD_take (i := 4) (v := .int .i64 (k : Nat)) rfl (by kernel_rfl) (by kernel_rfl) (by kernel_rfl) (by kernel_rfl) (by kernel_rfl) (fun _ _ _ h => h) (.inl ⟨by kernel_rfl, fun W' hS => by go_simp⟩) trivial ?_
              obtain ⟨W0, hW0⟩ : ∃ Y, W.drew = Y := ⟨_, rfl⟩
              have kb : Below W.heap.size W W0 := hW0 ▸ (Below.refl _ W).drew
              rw [hW0]
              clear hW0
              have hs0 := kb.size
              refine wpAnyD_two (i := 3) (j := 8) (by kernel_rfl) rfl rfl (by kernel_rfl) (by kernel_rfl) ?_ ?_
              · go_simp
                have hcI : ((W0).alloc (.cells #[.int .i64 (-1), .int .i64 0, .int .i64 1, .int .i64 5, .int .i64 11, .int .i64 40] 3)).cell? ⟨(W0).heap.size, k, none⟩ = some (.int .i64 P) := (Blk.new (W0) _ _).at hP
                have kbI := kb.alloc (by omega) (.cells #[.int .i64 (-1), .int .i64 0, .int .i64 1, .int .i64 5, .int .i64 11, .int .i64 40] 3)
                obtain ⟨W1, hWW1⟩ : ∃ X, (W0).alloc (.cells #[.int .i64 (-1), .int .i64 0, .int .i64 1, .int .i64 5, .int .i64 11, .int .i64 40] 3) = X := ⟨_, rfl⟩
                have hsW1 : W0.heap.size + 1 = W1.heap.size := by rw [← hWW1]; simp
                obtain ⟨rI, hrI⟩ : ∃ X, W0.heap.size = X := ⟨_, rfl⟩
                rw [hWW1] at hcI kbI ⊢
                rw [hrI] at hcI ⊢
                replace kb := kbI
                clear hWW1 kbI
                refine wpAnyD_take (i := 5) (v := .pointer (some ⟨rI, k, none⟩)) rfl (by kernel_rfl) (by kernel_rfl) (by kernel_rfl) (by kernel_rfl) (by kernel_rfl) (fun _ _ _ h => h) (.inl ⟨by kernel_rfl, fun W' hS => by go_simp⟩) trivial ?_
                refine wpAnyD_two (i := 6) (j := 8) (by kernel_rfl) rfl rfl (by kernel_rfl) (by kernel_rfl) ?_ ?_
                · go_simp
                  refine wpAnyD_take (i := 7) (v := .agg #[.slice xa5 n xc5, .int .i64 P]) rfl (by kernel_rfl) (by kernel_rfl) (by kernel_rfl) (by kernel_rfl) (by kernel_rfl) (fun _ _ _ h => h) (.inl ⟨by kernel_rfl, fun W' hS => by go_simp⟩) trivial ?_
                  refine wpAnyD_one (i := 8) (by kernel_rfl) rfl (by kernel_rfl) ?_
                  go_simp
                  have ab := Blk.new W1 #[.slice none 0 0, .int .i64 0] 28
                  have kbB := kb.alloc (by omega) (.cells #[.slice none 0 0, .int .i64 0] 28)
                  obtain ⟨W2, hWW2⟩ : ∃ X, W1.alloc (.cells #[.slice none 0 0, .int .i64 0] 28) = X := ⟨_, rfl⟩
                  have hsW2 : W1.heap.size + 1 = W2.heap.size := by rw [← hWW2]; simp
                  have hrb : W.heap.size ≤ W1.heap.size := by omega
                  obtain ⟨b9, hb9⟩ : ∃ X, W1.heap.size = X := ⟨_, rfl⟩
                  rw [hWW2] at ab kbB ⊢
                  rw [hb9] at ab hrb hsW2 ⊢
                  replace kb := kbB
                  clear hWW2 kbB
                  obtain ⟨c0, c1, f0, f1⟩ := ab.two
                  refine wpAnyD_one (i := 9) (by kernel_rfl) rfl (by kernel_rfl) ?_
                  go_simp
                  obtain ⟨W9, hW9, ab9, hp9, _, hz9⟩ := put2 ab (.slice xa5 n xc5) (.int .i64 P)
                  rw [hW9]
                  refine wpAnyD_done (by kernel_rfl) ?_ _
                  go_wp2_with fail
                  go_meet
                  exact ⟨b9, P, rfl, ab9, hP2, kb.trans (hp9.mono hrb)⟩
                · go_simp
                  have ab := Blk.new W1 #[.slice none 0 0, .int .i64 0] 28
                  have kbB := kb.alloc (by omega) (.cells #[.slice none 0 0, .int .i64 0] 28)
                  have hcI2 : (W1.alloc (.cells #[.slice none 0 0, .int .i64 0] 28)).cell? ⟨rI, k, none⟩ = some (.int .i64 P) := (((Below.refl W1.heap.size W1).alloc (Nat.le_refl _) _).cell (p := ⟨rI, k, none⟩) (show rI < W1.heap.size by omega)).trans hcI
                  obtain ⟨W2, hWW2⟩ : ∃ X, W1.alloc (.cells #[.slice none 0 0, .int .i64 0] 28) = X := ⟨_, rfl⟩
                  have hsW2 : W1.heap.size + 1 = W2.heap.size := by rw [← hWW2]; simp
                  have hrb : W.heap.size ≤ W1.heap.size := by omega
                  obtain ⟨b9, hb9⟩ : ∃ X, W1.heap.size = X := ⟨_, rfl⟩
                  rw [hWW2] at ab kbB hcI2 ⊢
                  rw [hb9] at ab hrb hsW2 ⊢
                  replace kb := kbB
                  clear hWW2 kbB
                  replace hcI := hcI2
                  clear hcI2
                  refine wpAnyD_one (i := 6) (by kernel_rfl) rfl (by kernel_rfl) ?_
                  go_simp
                  refine wpAnyD_take (i := 7) (v := .agg #[.slice xa5 n xc5, .int .i64 P]) rfl (by kernel_rfl) (by kernel_rfl) (by kernel_rfl) (by kernel_rfl) (by kernel_rfl) (fun _ _ _ h => h) (.inl ⟨by kernel_rfl, fun W' hS => by go_simp⟩) trivial ?_
                  obtain ⟨c0, c1, f0, f1⟩ := ab.two
                  refine wpAnyD_one (i := 9) (by kernel_rfl) rfl (by kernel_rfl) ?_
                  go_simp
                  obtain ⟨W9, hW9, ab9, hp9, _, hz9⟩ := put2 ab (.slice xa5 n xc5) (.int .i64 P)
                  rw [hW9]
                  refine wpAnyD_done (by kernel_rfl) ?_ _
                  go_wp2_with fail
                  go_meet
                  exact ⟨b9, P, rfl, ab9, hP2, kb.trans (hp9.mono hrb)⟩
              · go_simp
                have ab := Blk.new W0 #[.slice none 0 0, .int .i64 0] 28
                have kbB := kb.alloc (by omega) (.cells #[.slice none 0 0, .int .i64 0] 28)
                obtain ⟨W1, hWW1⟩ : ∃ X, W0.alloc (.cells #[.slice none 0 0, .int .i64 0] 28) = X := ⟨_, rfl⟩
                have hsW1 : W0.heap.size + 1 = W1.heap.size := by rw [← hWW1]; simp
                have hrb : W.heap.size ≤ W0.heap.size := by omega
                obtain ⟨b9, hb9⟩ : ∃ X, W0.heap.size = X := ⟨_, rfl⟩
                rw [hWW1] at ab kbB ⊢
                rw [hb9] at ab hrb hsW1 ⊢
                replace kb := kbB
                clear hWW1 kbB
                refine wpAnyD_one (i := 3) (by kernel_rfl) rfl (by kernel_rfl) ?_
                go_simp
                have hcI : ((W1).alloc (.cells #[.int .i64 (-1), .int .i64 0, .int .i64 1, .int .i64 5, .int .i64 11, .int .i64 40] 3)).cell? ⟨(W1).heap.size, k, none⟩ = some (.int .i64 P) := (Blk.new (W1) _ _).at hP
                have kbI := kb.alloc (by omega) (.cells #[.int .i64 (-1), .int .i64 0, .int .i64 1, .int .i64 5, .int .i64 11, .int .i64 40] 3)
                obtain ⟨W2, hWW2⟩ : ∃ X, (W1).alloc (.cells #[.int .i64 (-1), .int .i64 0, .int .i64 1, .int .i64 5, .int .i64 11, .int .i64 40] 3) = X := ⟨_, rfl⟩
                have hsW2 : W1.heap.size + 1 = W2.heap.size := by rw [← hWW2]; simp
                obtain ⟨rI, hrI⟩ : ∃ X, W1.heap.size = X := ⟨_, rfl⟩
                have ab2 := ab.alloc (.cells #[.int .i64 (-1), .int .i64 0, .int .i64 1, .int .i64 5, .int .i64 11, .int .i64 40] 3)
                rw [hWW2] at hcI kbI ab2 ⊢
                rw [hrI] at hcI ⊢
                replace kb := kbI
                clear hWW2 kbI
                replace ab := ab2
                refine wpAnyD_take (i := 5) (v := .pointer (some ⟨rI, k, none⟩)) rfl (by kernel_rfl) (by kernel_rfl) (by kernel_rfl) (by kernel_rfl) (by kernel_rfl) (fun _ _ _ h => h) (.inl ⟨by kernel_rfl, fun W' hS => by go_simp⟩) trivial ?_
                refine wpAnyD_one (i := 6) (by kernel_rfl) rfl (by kernel_rfl) ?_
                go_simp
                refine wpAnyD_take (i := 7) (v := .agg #[.slice xa5 n xc5, .int .i64 P]) rfl (by kernel_rfl) (by kernel_rfl) (by kernel_rfl) (by kernel_rfl) (by kernel_rfl) (fun _ _ _ h => h) (.inl ⟨by kernel_rfl, fun W' hS => by go_simp⟩) trivial ?_
                obtain ⟨c0, c1, f0, f1⟩ := ab.two
                refine wpAnyD_one (i := 9) (by kernel_rfl) rfl (by kernel_rfl) ?_
                go_simp
                obtain ⟨W9, hW9, ab9, hp9, _, hz9⟩ := put2 ab (.slice xa5 n xc5) (.int .i64 P)
                rw [hW9]
                refine wpAnyD_done (by kernel_rfl) ?_ _
                go_wp2_with fail
                go_meet
                exact ⟨b9, P, rfl, ab9, hP2, kb.trans (hp9.mono hrb)⟩
            case rest =>
              obtain ⟨wa, rfl⟩ : ∃ Y : World, Y = wc := ⟨_, rfl⟩
              obtain ⟨b9, P, rfl, q9, hP3, hbx⟩ := hcut
              replace rd := rd.below hbx
              replace ra := ra.below hbx
              replace rq := rq.below hbx
              replace hk := hk.trans (hbx.mono hs)
              replace hs := Nat.le_trans hs hbx.size
              replace hsW := Nat.le_trans hsW hbx.size
              clear hbx hP hP2 hP2'
              have hk2c : k * 2 ≤ xc5 := by omega
              have hkac : k ≤ ac := by omega
              have hw1 : IntKind.i64.wrap ((k : Int) * 2) = (k : Int) * 2 := IntWalk.i64_in _ (by omega)
              have hw2 : IntKind.i64.wrap ((n : Int) - 1) = (n : Int) - 1 := IntWalk.i64_in _ (by omega)
              have hw3 : IntKind.i64.wrap ((n : Int) + 1) = (n : Int) + 1 := IntWalk.i64_in _ (by omega)
              have hw4 : IntKind.i64.wrap ((n : Int) / 13) = (n : Int) / 13 := IntWalk.i64_in _ (by omega)
              have hw6 : IntKind.i64.wrap ((k : Int) - 2) = (k : Int) - 2 := IntWalk.i64_in _ (by omega)
              have hw7 : IntKind.i64.wrap (2 + (k : Int) % 2) = 2 + (k : Int) % 2 := IntWalk.i64_in _ (by omega)
              have hc1 : 0 ≤ (k : Int) * 2 := by omega
              have hc2 : (k : Int) * 2 ≤ (xc5 : Int) := by omega
              have htn : ((k : Int) * 2).toNat = k * 2 := by omega
              have htd : (n : Int).tdiv 13 = (n : Int) / 13 := Int.tdiv_eq_ediv_of_nonneg (by omega)
              have htm : (k : Int).tmod 2 = (k : Int) % 2 := Int.tmod_eq_emod_of_nonneg (by omega)
              go_upto_region 14 with fail
              refine region_plain (S1 b9 #[.slice xa5 n xc5, .int .i64 P] 28) [] (by kernel_rfl) ?_
              obtain ⟨X0, hX0⟩ : ∃ Y, wa.drew = Y := ⟨_, rfl⟩
              have hd0 : Below wa.heap.size wa X0 := hX0 ▸ (Below.refl _ wa).drew
              have s0 : S1 b9 #[.slice xa5 n xc5, .int .i64 P] 28 X0 := hX0 ▸ q9
              rw [hX0]
              clear hX0
              replace rd := rd.below hd0
              replace ra := ra.below hd0
              replace rq := rq.below hd0
              replace hk := hk.trans (hd0.mono hs)
              replace hs := Nat.le_trans hs hd0.size
              replace hsW := Nat.le_trans hsW hd0.size
              refine wpAnyD_take (i := 0) (v := .agg #[.slice xa5 n xc5, .int .i64 P]) rfl (by kernel_rfl) (by kernel_rfl) (by kernel_rfl) (by kernel_rfl) (by kernel_rfl) (fun _ _ _ h => h) (.inl ⟨by kernel_rfl, fun W' hS => by obtain ⟨c0, c1, f0, f1⟩ := Blk.two (show Blk W' b9 _ _ from hS); go_simp⟩) s0 ?_
              refine wpAnyD_take (i := 1) (v := .slice xa5 23 xc5) rfl (by kernel_rfl) (by kernel_rfl) (by kernel_rfl) (by kernel_rfl) (by kernel_rfl) (fun _ _ _ h => h) (.inl ⟨by kernel_rfl, fun W' hS => by go_simp⟩) s0 ?_
              refine wpAnyD_take (i := 2) (v := .int .i64 (k : Nat)) rfl (by kernel_rfl) (by kernel_rfl) (by kernel_rfl) (by kernel_rfl) (by kernel_rfl) (fun _ _ _ h => h) (.inl ⟨by kernel_rfl, fun W' hS => by go_simp⟩) s0 ?_
              refine wpAnyD_take (i := 3) (v := .int .i64 ((k : Int) * 2)) rfl (by kernel_rfl) (by kernel_rfl) (by kernel_rfl) (by kernel_rfl) (by kernel_rfl) (fun _ _ _ h => h) (.inl ⟨by kernel_rfl, fun W' hS => by go_simp⟩) s0 ?_
              refine wpAnyD_take (i := 4) (v := .slice xa5 (k * 2) xc5) rfl (by kernel_rfl) (by kernel_rfl) (by kernel_rfl) (by kernel_rfl) (by kernel_rfl) (fun _ _ _ h => h) (.inl ⟨by kernel_rfl, fun W' hS => by go_simp⟩) s0 ?_
              refine wpAnyD_take (i := 5) (v := .int .i64 (n : Nat)) rfl (by kernel_rfl) (by kernel_rfl) (by kernel_rfl) (by kernel_rfl) (by kernel_rfl) (fun _ _ _ h => h) (.inl ⟨by kernel_rfl, fun W' hS => by go_simp⟩) s0 ?_
              refine wpAnyD_take (i := 6) (v := .int .i64 ((n : Int) - 1)) rfl (by kernel_rfl) (by kernel_rfl) (by kernel_rfl) (by kernel_rfl) (by kernel_rfl) (fun _ _ _ h => h) (.inl ⟨by kernel_rfl, fun W' hS => by go_simp⟩) s0 ?_
              refine wpAnyD_one (i := 7) (by kernel_rfl) rfl (by kernel_rfl) ?_
              go_simp
              refine (stores_any _ _ ⟨D.take n, P⟩ (D.take (k * 2)) _ X0 (Byts.take (cap := xc5) (by rw [HDL.out]; exact rd.own.byts) n (by rw [HDL.out]; omega)) (Byts.take (cap := xc5) (by rw [HDL.out]; exact rd.own.byts) (k * 2) (by rw [HDL.out]; omega)) hP3.out (by simp; omega) (by simp; omega)).mono ?_
              rintro e X1 ⟨rfl, hbX1⟩
              have s1 : S1 b9 #[.slice xa5 n xc5, .int .i64 P] 28 X1 := Blk.below s0 hbX1 (Blk.lt s0)
              replace rd := rd.below hbX1
              replace ra := ra.below hbX1
              replace rq := rq.below hbX1
              replace hk := hk.trans (hbX1.mono hs)
              replace hs := Nat.le_trans hs hbX1.size
              replace hsW := Nat.le_trans hsW hbX1.size
              refine ⟨s1, ?_⟩
              clear hbX1
              refine wpAnyD_take (i := 8) (v := .bool false) rfl (by kernel_rfl) (by kernel_rfl) (by kernel_rfl) (by kernel_rfl) (by kernel_rfl) (fun _ _ _ h => h) (.inl ⟨by kernel_rfl, fun W' hS => by go_simp⟩) s1 ?_
              refine wpAnyD_take (i := 9) (v := .bool false) rfl (by kernel_rfl) (by kernel_rfl) (by kernel_rfl) (by kernel_rfl) (by kernel_rfl) (fun _ _ _ h => h) (.inl ⟨by kernel_rfl, fun W' hS => by go_simp⟩) s1 ?_
              refine wpAnyD_take (i := 10) (v := .slice xa6 23 xc6) rfl (by kernel_rfl) (by kernel_rfl) (by kernel_rfl) (by kernel_rfl) (by kernel_rfl) (fun _ _ _ h => h) (.inl ⟨by kernel_rfl, fun W' hS => by go_simp⟩) s1 ?_
              refine wpAnyD_take (i := 11) (v := .agg #[.slice xa6 23 xc6, .int .i64 (-1)]) rfl (by kernel_rfl) (by kernel_rfl) (by kernel_rfl) (by kernel_rfl) (by kernel_rfl) (fun _ _ _ h => h) (.inl ⟨by kernel_rfl, fun W' hS => by go_simp⟩) s1 ?_
              refine wpAnyD_take (i := 12) (v := .slice aa 13 ac) rfl (by kernel_rfl) (by kernel_rfl) (by kernel_rfl) (by kernel_rfl) (by kernel_rfl) (fun _ _ _ h => h) (.inl ⟨by kernel_rfl, fun W' hS => by go_simp⟩) s1 ?_
              refine wpAnyD_take (i := 13) (v := .int .i64 (n : Nat)) rfl (by kernel_rfl) (by kernel_rfl) (by kernel_rfl) (by kernel_rfl) (by kernel_rfl) (fun _ _ _ h => h) (.inl ⟨by kernel_rfl, fun W' hS => by go_simp⟩) s1 ?_
              refine wpAnyD_take (i := 14) (v := .int .i64 ((n : Int) + 1)) rfl (by kernel_rfl) (by kernel_rfl) (by kernel_rfl) (by kernel_rfl) (by kernel_rfl) (fun _ _ _ h => h) (.inl ⟨by kernel_rfl, fun W' hS => by go_simp⟩) s1 ?_
              refine wpAnyD_one (i := 15) (by kernel_rfl) rfl (by kernel_rfl) ?_
              go_simp
              refine (stores_any _ _ ⟨Dd, -1⟩ A _ X1 rq.own.byts ra.own.byts (by show (-1 : Int) ≤ 2 ^ 63 - 1; decide) (by show Dd.length ≤ _; rw [hDdl]; decide) (by rw [HAL.out]; decide)).mono ?_
              rintro e X2 ⟨rfl, hbX2⟩
              have s2 : S1 b9 #[.slice xa5 n xc5, .int .i64 P] 28 X2 := Blk.below s1 hbX2 (Blk.lt s1)
              replace rd := rd.below hbX2
              replace ra := ra.below hbX2
              replace rq := rq.below hbX2
              replace hk := hk.trans (hbX2.mono hs)
              replace hs := Nat.le_trans hs hbX2.size
              replace hsW := Nat.le_trans hsW hbX2.size
              refine ⟨s2, ?_⟩
              clear hbX2
              refine wpAnyD_take (i := 16) (v := .bool false) rfl (by kernel_rfl) (by kernel_rfl) (by kernel_rfl) (by kernel_rfl) (by kernel_rfl) (fun _ _ _ h => h) (.inl ⟨by kernel_rfl, fun W' hS => by go_simp⟩) s2 ?_
              refine wpAnyD_take (i := 17) (v := .bool false) rfl (by kernel_rfl) (by kernel_rfl) (by kernel_rfl) (by kernel_rfl) (by kernel_rfl) (fun _ _ _ h => h) (.inl ⟨by kernel_rfl, fun W' hS => by go_simp⟩) s2 ?_
              refine wpAnyD_take (i := 18) (v := .bool false) rfl (by kernel_rfl) (by kernel_rfl) (by kernel_rfl) (by kernel_rfl) (by kernel_rfl) (fun _ _ _ h => h) (.inl ⟨by kernel_rfl, fun W' hS => by go_simp⟩) s2 ?_
              refine wpAnyD_take (i := 19) (v := .agg #[.slice xa5 n xc5, .int .i64 P]) rfl (by kernel_rfl) (by kernel_rfl) (by kernel_rfl) (by kernel_rfl) (by kernel_rfl) (fun _ _ _ h => h) (.inl ⟨by kernel_rfl, fun W' hS => by obtain ⟨c0, c1, f0, f1⟩ := Blk.two (show Blk W' b9 _ _ from hS); go_simp⟩) s2 ?_
              refine wpAnyD_take (i := 20) (v := .int .i64 (n : Nat)) rfl (by kernel_rfl) (by kernel_rfl) (by kernel_rfl) (by kernel_rfl) (by kernel_rfl) (fun _ _ _ h => h) (.inl ⟨by kernel_rfl, fun W' hS => by go_simp⟩) s2 ?_
              refine wpAnyD_take (i := 21) (v := .int .i64 ((n : Int) / 13)) rfl (by kernel_rfl) (by kernel_rfl) (by kernel_rfl) (by kernel_rfl) (by kernel_rfl) (fun _ _ _ h => h) (.inl ⟨by kernel_rfl, fun W' hS => by go_simp⟩) s2 ?_
              refine wpAnyD_take (i := 22) (v := .int .i64 (k : Nat)) rfl (by kernel_rfl) (by kernel_rfl) (by kernel_rfl) (by kernel_rfl) (by kernel_rfl) (fun _ _ _ h => h) (.inl ⟨by kernel_rfl, fun W' hS => by go_simp⟩) s2 ?_
              refine wpAnyD_take (i := 23) (v := .int .i64 ((k : Int) % 2)) rfl (by kernel_rfl) (by kernel_rfl) (by kernel_rfl) (by kernel_rfl) (by kernel_rfl) (fun _ _ _ h => h) (.inl ⟨by kernel_rfl, fun W' hS => by go_simp⟩) s2 ?_
              refine wpAnyD_take (i := 24) (v := .bool ((k : Int) % 2 == 1)) rfl (by kernel_rfl) (by kernel_rfl) (by kernel_rfl) (by kernel_rfl) (by kernel_rfl) (fun _ _ _ h => h) (.inl ⟨by kernel_rfl, fun W' hS => by go_simp⟩) s2 ?_
              refine wpAnyD_take (i := 25) (v := .agg #[.slice xa5 n xc5, .int .i64 P, .int .i64 ((n : Int) / 13), .bool ((k : Int) % 2 == 1)]) rfl (by kernel_rfl) (by kernel_rfl) (by kernel_rfl) (by kernel_rfl) (by kernel_rfl) (fun _ _ _ h => h) (.inl ⟨by kernel_rfl, fun W' hS => by go_simp⟩) s2 ?_
              refine wpAnyD_take (i := 26) (v := .slice aa 13 ac) rfl (by kernel_rfl) (by kernel_rfl) (by kernel_rfl) (by kernel_rfl) (by kernel_rfl) (fun _ _ _ h => h) (.inl ⟨by kernel_rfl, fun W' hS => by go_simp⟩) s2 ?_
              refine wpAnyD_take (i := 27) (v := .int .i64 (k : Nat)) rfl (by kernel_rfl) (by kernel_rfl) (by kernel_rfl) (by kernel_rfl) (by kernel_rfl) (fun _ _ _ h => h) (.inl ⟨by kernel_rfl, fun W' hS => by go_simp⟩) s2 ?_
              refine wpAnyD_take (i := 28) (v := .slice aa k ac) rfl (by kernel_rfl) (by kernel_rfl) (by kernel_rfl) (by kernel_rfl) (by kernel_rfl) (fun _ _ _ h => h) (.inl ⟨by kernel_rfl, fun W' hS => by go_simp⟩) s2 ?_
              refine wpAnyD_take (i := 29) (v := .int .i64 (k : Nat)) rfl (by kernel_rfl) (by kernel_rfl) (by kernel_rfl) (by kernel_rfl) (by kernel_rfl) (fun _ _ _ h => h) (.inl ⟨by kernel_rfl, fun W' hS => by go_simp⟩) s2 ?_
              refine wpAnyD_take (i := 30) (v := .int .i64 ((k : Int) - 2)) rfl (by kernel_rfl) (by kernel_rfl) (by kernel_rfl) (by kernel_rfl) (by kernel_rfl) (fun _ _ _ h => h) (.inl ⟨by kernel_rfl, fun W' hS => by go_simp⟩) s2 ?_
              refine wpAnyD_one (i := 31) (by kernel_rfl) rfl (by kernel_rfl) ?_
              go_simp
              refine (logs_any _ _ ⟨⟨D.take n, P⟩, (n : Int) / 13, (k : Int) % 2 == 1⟩ (A.take k) _ X2 (Byts.take (cap := xc5) (by rw [HDL.out]; exact rd.own.byts) n (by rw [HDL.out]; omega)) (Byts.take (cap := ac) (by rw [HAL.out]; exact ra.own.byts) k (by rw [HAL.out]; omega)) hP3.out (by simp; omega) (by simp; omega)).mono ?_
              rintro e X3 ⟨rfl, hbX3⟩
              have s3 : S1 b9 #[.slice xa5 n xc5, .int .i64 P] 28 X3 := Blk.below s2 hbX3 (Blk.lt s2)
              replace rd := rd.below hbX3
              replace ra := ra.below hbX3
              replace rq := rq.below hbX3
              replace hk := hk.trans (hbX3.mono hs)
              replace hs := Nat.le_trans hs hbX3.size
              replace hsW := Nat.le_trans hsW hbX3.size
              refine ⟨s3, ?_⟩
              clear hbX3
              refine wpAnyD_take (i := 32) (v := .bool false) rfl (by kernel_rfl) (by kernel_rfl) (by kernel_rfl) (by kernel_rfl) (by kernel_rfl) (fun _ _ _ h => h) (.inl ⟨by kernel_rfl, fun W' hS => by go_simp⟩) s3 ?_
              refine wpAnyD_take (i := 33) (v := .bool false) rfl (by kernel_rfl) (by kernel_rfl) (by kernel_rfl) (by kernel_rfl) (by kernel_rfl) (fun _ _ _ h => h) (.inl ⟨by kernel_rfl, fun W' hS => by go_simp⟩) s3 ?_
              refine wpAnyD_done (by kernel_rfl) ?_ _
              clear s0 s1 s2 s3 q9 hd0
              have h13 : 13 ≤ xc5 := by omega
              go_upto_region 17 with fail
              have q10 := Blk.new X3 #[.slice xa5 13 xc5, .int .i64 (n : Nat), .int .i64 1, .bool false] 32
              have hka : Below X3.heap.size X3 (X3.alloc (.cells #[.slice xa5 13 xc5, .int .i64 (n : Nat), .int .i64 1, .bool false] 32)) := (Below.refl _ X3).alloc (Nat.le_refl _) _
              replace rd := rd.below hka
              replace ra := ra.below hka
              replace rq := rq.below hka
              replace hk := hk.trans (hka.mono hs)
              replace hs := Nat.le_trans hs hka.size
              replace hsW := Nat.le_trans hsW hka.size
              obtain ⟨X4, hX4⟩ : ∃ Y, X3.alloc (.cells #[.slice xa5 13 xc5, .int .i64 (n : Nat), .int .i64 1, .bool false] 32) = Y := ⟨_, rfl⟩
              obtain ⟨b10, hb10⟩ : ∃ Y, X3.heap.size = Y := ⟨_, rfl⟩
              rw [hX4] at rd ra rq hk hs hsW q10 ⊢
              rw [hb10] at q10 ⊢
              clear hX4 hb10 hka
              refine region_plain (S1 b10 #[.slice xa5 13 xc5, .int .i64 (n : Nat), .int .i64 1, .bool false] 32) [] (by kernel_rfl) ?_
              obtain ⟨X5, hX5⟩ : ∃ Y, X4.drew = Y := ⟨_, rfl⟩
              have hd1 : Below X4.heap.size X4 X5 := hX5 ▸ (Below.refl _ X4).drew
              have s4 : S1 b10 #[.slice xa5 13 xc5, .int .i64 (n : Nat), .int .i64 1, .bool false] 32 X5 := hX5 ▸ q10
              rw [hX5]
              clear hX5
              replace rd := rd.below hd1
              replace ra := ra.below hd1
              replace rq := rq.below hd1
              replace hk := hk.trans (hd1.mono hs)
              replace hs := Nat.le_trans hs hd1.size
              replace hsW := Nat.le_trans hsW hd1.size
              refine wpAnyD_take (i := 0) (v := .agg #[.slice xa5 13 xc5, .int .i64 (n : Nat), .int .i64 1, .bool false]) rfl (by kernel_rfl) (by kernel_rfl) (by kernel_rfl) (by kernel_rfl) (by kernel_rfl) (fun _ _ _ h => h) (.inl ⟨by kernel_rfl, fun W' hS => by obtain ⟨c0, c1, c2, c3, f0, f1, f2, f3⟩ := Blk.four (show Blk W' b10 _ _ from hS); go_simp⟩) s4 ?_
              refine wpAnyD_take (i := 1) (v := .slice aa 13 ac) rfl (by kernel_rfl) (by kernel_rfl) (by kernel_rfl) (by kernel_rfl) (by kernel_rfl) (fun _ _ _ h => h) (.inl ⟨by kernel_rfl, fun W' hS => by go_simp⟩) s4 ?_
              refine wpAnyD_take (i := 2) (v := .int .i64 (k : Nat)) rfl (by kernel_rfl) (by kernel_rfl) (by kernel_rfl) (by kernel_rfl) (by kernel_rfl) (fun _ _ _ h => h) (.inl ⟨by kernel_rfl, fun W' hS => by go_simp⟩) s4 ?_
              refine wpAnyD_take (i := 3) (v := .slice aa k ac) rfl (by kernel_rfl) (by kernel_rfl) (by kernel_rfl) (by kernel_rfl) (by kernel_rfl) (fun _ _ _ h => h) (.inl ⟨by kernel_rfl, fun W' hS => by go_simp⟩) s4 ?_
              refine wpAnyD_one (i := 4) (by kernel_rfl) rfl (by kernel_rfl) ?_
              go_simp
              refine (logs_any _ _ ⟨⟨D.take 13, (n : Nat)⟩, 1, false⟩ (A.take k) _ X5 (Byts.take (cap := xc5) (by rw [HDL.out]; exact rd.own.byts) 13 (by rw [HDL.out]; omega)) (Byts.take (cap := ac) (by rw [HAL.out]; exact ra.own.byts) k (by rw [HAL.out]; omega)) (by show ((n : Nat) : Int) ≤ 2 ^ 63 - 1; omega) (by simp; omega) (by simp; omega)).mono ?_
              rintro e X6 ⟨rfl, hbX6⟩
              have s5 : S1 b10 #[.slice xa5 13 xc5, .int .i64 (n : Nat), .int .i64 1, .bool false] 32 X6 := Blk.below s4 hbX6 (Blk.lt s4)
              replace rd := rd.below hbX6
              replace ra := ra.below hbX6
              replace rq := rq.below hbX6
              replace hk := hk.trans (hbX6.mono hs)
              replace hs := Nat.le_trans hs hbX6.size
              replace hsW := Nat.le_trans hsW hbX6.size
              refine ⟨s5, ?_⟩
              clear hbX6
              refine wpAnyD_take (i := 5) (v := .bool false) rfl (by kernel_rfl) (by kernel_rfl) (by kernel_rfl) (by kernel_rfl) (by kernel_rfl) (fun _ _ _ h => h) (.inl ⟨by kernel_rfl, fun W' hS => by go_simp⟩) s5 ?_
              refine wpAnyD_take (i := 6) (v := .bool false) rfl (by kernel_rfl) (by kernel_rfl) (by kernel_rfl) (by kernel_rfl) (by kernel_rfl) (fun _ _ _ h => h) (.inl ⟨by kernel_rfl, fun W' hS => by go_simp⟩) s5 ?_
              refine wpAnyD_take (i := 7) (v := .slice xa5 23 xc5) rfl (by kernel_rfl) (by kernel_rfl) (by kernel_rfl) (by kernel_rfl) (by kernel_rfl) (fun _ _ _ h => h) (.inl ⟨by kernel_rfl, fun W' hS => by go_simp⟩) s5 ?_
              refine wpAnyD_take (i := 8) (v := .agg #[.slice xa5 23 xc5, .int .i64 (-1)]) rfl (by kernel_rfl) (by kernel_rfl) (by kernel_rfl) (by kernel_rfl) (by kernel_rfl) (fun _ _ _ h => h) (.inl ⟨by kernel_rfl, fun W' hS => by go_simp⟩) s5 ?_
              refine wpAnyD_take (i := 9) (v := .int .i64 (k : Nat)) rfl (by kernel_rfl) (by kernel_rfl) (by kernel_rfl) (by kernel_rfl) (by kernel_rfl) (fun _ _ _ h => h) (.inl ⟨by kernel_rfl, fun W' hS => by go_simp⟩) s5 ?_
              refine wpAnyD_take (i := 10) (v := .int .i64 ((k : Int) % 2)) rfl (by kernel_rfl) (by kernel_rfl) (by kernel_rfl) (by kernel_rfl) (by kernel_rfl) (fun _ _ _ h => h) (.inl ⟨by kernel_rfl, fun W' hS => by go_simp⟩) s5 ?_
              refine wpAnyD_take (i := 11) (v := .int .i64 (2 + (k : Int) % 2)) rfl (by kernel_rfl) (by kernel_rfl) (by kernel_rfl) (by kernel_rfl) (by kernel_rfl) (fun _ _ _ h => h) (.inl ⟨by kernel_rfl, fun W' hS => by go_simp⟩) s5 ?_
              refine wpAnyD_take (i := 12) (v := .agg #[.slice xa5 23 xc5, .int .i64 (-1), .int .i64 (2 + (k : Int) % 2), .bool false]) rfl (by kernel_rfl) (by kernel_rfl) (by kernel_rfl) (by kernel_rfl) (by kernel_rfl) (fun _ _ _ h => h) (.inl ⟨by kernel_rfl, fun W' hS => by go_simp⟩) s5 ?_
              refine wpAnyD_take (i := 13) (v := .slice aa 13 ac) rfl (by kernel_rfl) (by kernel_rfl) (by kernel_rfl) (by kernel_rfl) (by kernel_rfl) (fun _ _ _ h => h) (.inl ⟨by kernel_rfl, fun W' hS => by go_simp⟩) s5 ?_
              refine wpAnyD_take (i := 14) (v := .int .i64 (k : Nat)) rfl (by kernel_rfl) (by kernel_rfl) (by kernel_rfl) (by kernel_rfl) (by kernel_rfl) (fun _ _ _ h => h) (.inl ⟨by kernel_rfl, fun W' hS => by go_simp⟩) s5 ?_
              refine wpAnyD_take (i := 15) (v := .slice aa k ac) rfl (by kernel_rfl) (by kernel_rfl) (by kernel_rfl) (by kernel_rfl) (by kernel_rfl) (fun _ _ _ h => h) (.inl ⟨by kernel_rfl, fun W' hS => by go_simp⟩) s5 ?_
              refine wpAnyD_one (i := 16) (by kernel_rfl) rfl (by kernel_rfl) ?_
              go_simp
              refine (logs_any _ _ ⟨⟨D, -1⟩, 2 + (k : Int) % 2, false⟩ (A.take k) _ X6 (rd.own.byts) (Byts.take (cap := ac) (by rw [HAL.out]; exact ra.own.byts) k (by rw [HAL.out]; omega)) (by show (-1 : Int) ≤ 2 ^ 63 - 1; decide) (by show D.length ≤ _; rw [HDL.out]; decide) (by simp; omega)).mono ?_
              rintro e X7 ⟨rfl, hbX7⟩
              have s6 : S1 b10 #[.slice xa5 13 xc5, .int .i64 (n : Nat), .int .i64 1, .bool false] 32 X7 := Blk.below s5 hbX7 (Blk.lt s5)
              replace rd := rd.below hbX7
              replace ra := ra.below hbX7
              replace rq := rq.below hbX7
              replace hk := hk.trans (hbX7.mono hs)
              replace hs := Nat.le_trans hs hbX7.size
              replace hsW := Nat.le_trans hsW hbX7.size
              refine ⟨s6, ?_⟩
              clear hbX7
              refine wpAnyD_take (i := 17) (v := .bool false) rfl (by kernel_rfl) (by kernel_rfl) (by kernel_rfl) (by kernel_rfl) (by kernel_rfl) (fun _ _ _ h => h) (.inl ⟨by kernel_rfl, fun W' hS => by go_simp⟩) s6 ?_
              refine wpAnyD_take (i := 18) (v := .bool false) rfl (by kernel_rfl) (by kernel_rfl) (by kernel_rfl) (by kernel_rfl) (by kernel_rfl) (fun _ _ _ h => h) (.inl ⟨by kernel_rfl, fun W' hS => by go_simp⟩) s6 ?_
              refine wpAnyD_done (by kernel_rfl) ?_ _
              clear s4 s5 s6 q10 hd1
              go_wp2_with fail
              go_roundw
              case rel => exact ⟨k + 1, by omega, by go_num, rd, ra, hk, hsW⟩
              case measure => simp [intOf]; omega
        · obtain rfl : k = 6 := by omega
          have tk : decide (((6 : Nat) : Int) < (6 : Int)) = false := by decide
          go_wp2_with fail
          go_roundw
          case rel => exact ⟨n + 1, by omega, by go_num, rd, ra, hk, hsw⟩
          case measure => simp [intOf]; omega
    · have tn : decide ((n : Int) ≤ (23 : Int)) = false := by simp; omega
      go_wp2_with fail
      refine (limits_any wr).mono ?_
      rintro e w8 ⟨rfl, hb8⟩
      have hk8 := hk.trans (hb8.mono hs)
      have hs8 := Nat.le_trans hs hb8.size
      go_wp2_with fail
      refine (awake_any w8).mono ?_
      rintro e w9 ⟨rfl, hb9⟩
      have hk9 := hk8.trans (hb9.mono hs8)
      go_wp2_with fail
      go_ret
      exact ⟨rfl, hk9⟩
end Go.Proofs.YtkdlimigepkepaaGreat

