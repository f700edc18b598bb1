/- Layer 37's limits: payloads, stores, numbers and powers at their limits. No conditions. -/
import Derived.Test.YtkdlimigepkepaaGreatK10
namespace Go.Proofs.YtkdlimigepkepaaGreat
open Go.RowKit
set_option linter.unusedVariables false

theorem made_zeros (n : Nat) : (madeCells (Value.int .u8 0).cells (n * 1)).toList = (List.replicate n (0 : UInt8)).map B := by
  rw [Nat.mul_one, List.map_replicate]
  exact toList_madeCells_one _ n
theorem own_zeros {base g n : Nat} {W : World} (h : W.ownsRow base 5 1 (.slice (some ⟨g, 0, none⟩) n n) n (madeCells (Value.int .u8 0).cells (n * 1)).toList) : OwnB base W (.slice (some ⟨g, 0, none⟩) n n) (List.replicate n 0) := by
  unfold OwnB
  rw [List.length_replicate, ← made_zeros]
  exact h

theorem leN_zeros (k : Nat) : leN (List.replicate k 0) = 0 := by
  induction k with
  | zero => rfl
  | succ k ih => rw [List.replicate_succ]; simp [leN, ih]
theorem scan_zeros (n : Nat) (h : 4 ≤ n) : scanOf (List.replicate n 0) = [] := by
  refine (IsScan.of (ReadsTo.nil _) ?_).symm
  refine nextRec_sum (.inl ?_)
  show leN (((List.replicate n 0).drop 0).take 4) ≠ 1
  rw [List.drop_zero, List.take_replicate, Nat.min_eq_left h, leN_zeros]
  decide

/-- What limits asks of a store of zeros. -/
structure Lim (zl zf : List UInt8) : Prop where
  w1 : writeS ⟨zf, -1⟩ [1] = (zSt, 4)
  w2 : writeS ⟨zf, -1⟩ [] = (⟨zf, -1⟩, 0)
  w3 : writeS ⟨zl, -1⟩ [] = (zSt, 2)
  w4 : writeS ⟨[], -2⟩ [] = (zSt, 2)
  o5 : openS ⟨zl, -1⟩ = (zLg, [], 2)
  o6 : openS ⟨zf, -1⟩ = (⟨⟨[], -1⟩, 0, false⟩, [], 0)
theorem lim {n m : Nat} (hn : n = 1048577) (hm : m = 1048576) : Lim (List.replicate n 0) (List.replicate m 0) := by
  have hl : (List.replicate n (0 : UInt8)).length = n := List.length_replicate
  have hf : (List.replicate m (0 : UInt8)).length = m := List.length_replicate
  have hs := scan_zeros m (by omega)
  have hv : validB m (-1) = true := by unfold validB; simp; omega
  have hv2 : validB n (-1) = false := by unfold validB; simp; omega
  refine ⟨?_, ?_, ?_, ?_, ?_, ?_⟩
  · unfold writeS; simp only [hf]; rw [if_neg (by rw [hv]; simp), if_pos (by simp; omega)]
  · unfold writeS; simp only [hf]; rw [if_neg (by rw [hv]; simp), if_neg (by simp), if_pos (by decide), List.append_nil]
  · unfold writeS; simp only [hl]; rw [if_pos hv2]
  · unfold writeS; rw [if_pos (by decide)]
  · unfold openS; simp only [hl]; rw [if_pos hv2]
  · have hc : cutS ⟨List.replicate m 0, -1⟩ (endOf (scanOf (List.replicate m 0))) = (⟨[], -1⟩, 0) := by
      rw [hs]
      unfold cutS
      simp only [hf, endOf]
      rw [if_neg (by rw [hv]; simp), if_neg (by simp; omega), if_neg (by decide)]
      simp
    unfold openS
    simp only [hf]
    rw [if_neg (by rw [hv]; simp), hc, hs]
    simp

theorem wr_at {s sa : St} {d : List UInt8} {ea : Int} (hr : writeS s d = (sa, ea)) (K : Nat) (v vd : Value) (w : World) (hv : Byts K w v s.data) (hd : Byts K w vd d) (hK : K ≤ w.heap.size) (hp : s.power ≤ 2 ^ 63 - 1) :
    Calls Tryz.prog 12 #[.agg #[v, .int .i64 s.power], vd] w fun e w' => ∃ a cap, e = .returned (.tuple #[.agg #[.slice a sa.data.length cap, .int .i64 sa.power], .int .i64 ea]) ∧ OwnB w.heap.size w' (.slice a sa.data.length cap) sa.data ∧ Below w.heap.size w w' :=
  two_at (by have := write_any K v vd s d w hv hd hK hp; rw [hr] at this; exact this)
theorem form_two {n : Int} {p fx : List UInt8} {ef : Int} (hr : formR n p = (fx, ef)) (K : Nat) (v : Value) (w : World) (hv : Byts K w v p) (hK : K ≤ w.heap.size) :
    Calls Tryz.prog 19 #[.int .i64 n, v] w fun e w' => ∃ a cap, e = .returned (.tuple #[.slice a fx.length cap, .int .i64 ef]) ∧ OwnB w.heap.size w' (.slice a fx.length cap) fx ∧ Below w.heap.size w w' :=
  one_at (by have := form_all K v p n w hv hK; rw [hr] at this; exact this)
theorem form_ref_two {n : Int} {p fx : List UInt8} {ef : Int} (hr : formR n p = (fx, ef)) (K : Nat) (v : Value) (w : World) (hv : Byts K w v p) (hK : K ≤ w.heap.size) :
    Calls Tryz.prog 4 #[.int .i64 n, v] w fun e w' => ∃ a cap, e = .returned (.tuple #[.slice a fx.length cap, .int .i64 ef]) ∧ OwnB w.heap.size w' (.slice a fx.length cap) fx ∧ Below w.heap.size w w' :=
  one_at (by have := form_ref_all K v p n w hv hK; rw [hr] at this; exact this)
theorem formR_long {n : Int} {p : List UInt8} (h : 4096 < p.length) : formR n p = ([], 2) := by
  unfold formR
  rw [if_neg (by unfold formB; simp; omega)]

set_option maxRecDepth 100000 in
set_option maxHeartbeats 8000000 in
theorem limits_any (w : World) : Calls Tryz.prog 7 #[] w fun e w' => e = .returned (.bool true) ∧ Below w.heap.size w w' := by
  obtain ⟨n, hn⟩ : ∃ n : Nat, n = 1048577 := ⟨_, rfl⟩
  obtain ⟨m, hm⟩ : ∃ m : Nat, m = 1048576 := ⟨_, rfl⟩
  have hL := lim hn hm
  have hnm : n = m + 1 := by omega
  have hnI : (1048577 : Int) = (n : Int) := by omega
  have hzf : (List.replicate n (0 : UInt8)).take m = List.replicate m 0 := by rw [List.take_replicate, Nat.min_eq_left (by omega)]
  obtain ⟨zl, hzl⟩ : ∃ x, List.replicate n (0 : UInt8) = x := ⟨_, rfl⟩
  obtain ⟨zf, hzf'⟩ : ∃ x, List.replicate m (0 : UInt8) = x := ⟨_, rfl⟩
  have hll : zl.length = n := by rw [← hzl]; exact List.length_replicate
  have hlf : zf.length = m := by rw [← hzf']; exact List.length_replicate
  have hOZ : ∀ {base g : Nat} {W : World}, W.ownsRow base 5 1 (.slice (some ⟨g, 0, none⟩) n n) n (madeCells (Value.int .u8 0).cells (n * 1)).toList → OwnB base W (.slice (some ⟨g, 0, none⟩) n n) zl := fun h => hzl ▸ own_zeros h
  rw [hzl, hzf'] at hL
  rw [hzl, hzf'] at hzf
  have hlong : 4096 < (zl.take 4097).length := by simp; omega
  obtain ⟨j0, hj, hj0, hj1, hj2⟩ := info_parts Tryz.infoU8
  have HL := Lib.hid hL; have HZF := Lib.hid hzf; have HLL := Lib.hid hll; have HLF := Lib.hid hlf; have HNI := Lib.hid hnI; have HM := Lib.hid hm; have HNM := Lib.hid hnm; have HLG := Lib.hid hlong
  have hn1 : 4097 ≤ n := by omega
  have hn2 : n ≤ 2 ^ 21 := by omega
  have hn3 : m ≤ n := by omega
  have hmI : (1048576 : Int) = (m : Int) := by omega
  have HMI := Lib.hid hmI
  clear hn hm hL hnm hnI hzf hzl hzf' hll hlf hlong hmI
  go_enter Tryz.func7, Tryz.ntmps7
  go_wp2_with (at_make; refine wpList_make_full _ rfl (.const (.int .i64 1048577)) (.const (.int .i64 1048577)) 22 rfl w.heap.size 5 j0 _ 1 Tryz.underlying22 hj hj0 hj1 .i64 .i64 _ _ n rfl rfl HNI.out HNI.out (by rw [hj2]; omega) (by unfold maxLen; omega) (Nat.le_refl _) ?_; intro w1 ho1 hg1; have hb1 : Below w.heap.size w w1 := below_of_grown hg1 (fun r hr => nomatch hr) (Nat.le_refl _); have hz1 := hOZ ho1)
  have hs1 := hb1.size
  obtain ⟨zb, hzb⟩ : ∃ x, w.heap.size = x := ⟨_, rfl⟩
  have hz : Row zb w1.heap.size w1 (.slice (some ⟨zb, 0, none⟩) n n) zl := by rw [← hzb]; exact Row.mk' hz1
  have hk : Below zb w w1 := by rw [← hzb]; exact hb1
  have HZB := Lib.hid hzb
  rw [hzb]
  rw [hzb] at hs1
  clear ho1 hg1 hz1 hb1 hzb
  go_loopw [2, 3, 4, 5, 6, 7, 8, 9] (fun s2 s3 s4 s5 s6 s7 s8 s9 wr => ∃ i : Nat, i ≤ 4 ∧ s2 = .int .i64 (i : Nat) ∧ Row zb w1.heap.size wr (.slice (some ⟨zb, 0, none⟩) n n) zl ∧ Below zb w wr ∧ zb ≤ wr.heap.size) (fun s2 _ _ _ _ _ _ _ _ => 4 - (intOf s2).toNat)
  case atStart => exact ⟨0, by omega, rfl, hz, hk, hs1⟩
  case round =>
    obtain ⟨i, hi, rfl, hzr, hkr, hsr⟩ := hrel
    clear hz hk hs1
    by_cases hlt : i < 4
    · have hcs : i = 0 ∨ i = 1 ∨ i = 2 ∨ i = 3 := by omega
      obtain ⟨M, hM⟩ : ∃ M : Int, (#[Value.int .i64 0, .int .i64 1, .int .i64 65536, .int .i64 65537] : Array Value)[i]? = some (.int .i64 M) := by
        rcases hcs with rfl | rfl | rfl | rfl
        · exact ⟨0, rfl⟩
        · exact ⟨1, rfl⟩
        · exact ⟨65536, rfl⟩
        · exact ⟨65537, rfl⟩
      have hka : Below wr.heap.size wr (wr.alloc (.cells #[.int .i64 0, .int .i64 1, .int .i64 65536, .int .i64 65537] 3)) := (Below.refl _ wr).alloc (Nat.le_refl _) _
      have hcm : (wr.alloc (.cells #[.int .i64 0, .int .i64 1, .int .i64 65536, .int .i64 65537] 3)).cell? ⟨wr.heap.size, i, none⟩ = some (.int .i64 M) := (Blk.new wr _ _).at hM
      have hzA := hzr.below hka
      have hkA := hkr.trans (hka.mono hsr)
      have hsA : zb ≤ (wr.alloc (.cells #[.int .i64 0, .int .i64 1, .int .i64 65536, .int .i64 65537] 3)).heap.size := Nat.le_trans hsr hka.size
      obtain ⟨⟨fx, ef⟩, hfo⟩ : ∃ x, formR M (zl.take 4096) = x := ⟨_, rfl⟩
      have HFO := Lib.hid hfo
      have h4096 : 4096 ≤ zl.length := by rw [HLL.out]; omega
      have h4097 : 4097 ≤ zl.length := by rw [HLL.out]; omega
      have ht : ∀ (W : World) (k : Nat), k ≤ zl.length → Row zb w1.heap.size W (.slice (some ⟨zb, 0, none⟩) n n) zl → Byts W.heap.size W (.slice (some ⟨zb, 0, none⟩) k n) (zl.take k) := fun W k hk h => Byts.take (cap := n) (by rw [HLL.out]; exact h.own.byts) k hk
      have HT := Lib.hid ht
      clear hM hka hfo hzr hkr hsr hcs ht
      go_wp2_with fail
      obtain ⟨WA, hWA⟩ : ∃ X, wr.alloc (.cells #[.int .i64 0, .int .i64 1, .int .i64 65536, .int .i64 65537] 3) = X := ⟨_, rfl⟩
      rw [hWA] at hzA hkA hsA ⊢
      clear hWA hcm
      refine (form_two HFO.out WA.heap.size _ WA (HT.out WA 4096 h4096 hzA) (Nat.le_refl _)).mono ?_
      rintro e W2 ⟨xa, xc, rfl, ho2, hb2⟩
      have hzB := hzA.below hb2
      have hkB := hkA.trans (hb2.mono hsA)
      have hsB := Nat.le_trans hsA hb2.size
      have rx := Row.mk' ho2
      clear ho2 hb2 hzA hkA hsA
      go_wp2_with fail
      refine (form_ref_two HFO.out W2.heap.size _ W2 (HT.out W2 4096 h4096 hzB) (Nat.le_refl _)).mono ?_
      rintro e W3 ⟨ya, yc, rfl, ho3, hb3⟩
      have hzC := hzB.below hb3
      have hkC := hkB.trans (hb3.mono hsB)
      have hsC := Nat.le_trans hsB hb3.size
      replace rx := rx.below hb3
      have ry := Row.mk' ho3
      clear ho3 hb3 hzB hkB hsB
      go_wp2_with fail
      refine (form_two (formR_long HLG.out) W3.heap.size _ W3 (HT.out W3 4097 h4097 hzC) (Nat.le_refl _)).mono ?_
      rintro e W4 ⟨ua, uc, rfl, ho4, hb4⟩
      have hzD := hzC.below hb4
      have hkD := hkC.trans (hb4.mono hsC)
      have hsD := Nat.le_trans hsC hb4.size
      replace rx := rx.below hb4
      replace ry := ry.below hb4
      have s1 := conv_str rx.own.byts
      have s2 := conv_str ry.own.byts
      clear ho4 hb4 hzC hkC hsC
      go_wp2_with fail
      go_roundw
      case rel => exact ⟨i + 1, by omega, by go_num, hzD, hkD, hsD⟩
      case measure => simp [intOf]; omega
    · obtain rfl : i = 4 := by omega
      have hn4 : 1048576 ≤ n := by have := HM.out; omega
      have hk4 : 1048576 ≤ zl.length := by rw [HLL.out]; omega
      have hzf2 : Hid (zl.take 1048576 = zf) := by unfold Hid; rw [← HZF.out, HM.out]
      have htf : ∀ (W : World), Row zb w1.heap.size W (.slice (some ⟨zb, 0, none⟩) n n) zl → Byts W.heap.size W (.slice (some ⟨zb, 0, none⟩) 1048576 n) zf := fun W h => hzf2.out ▸ Byts.take (cap := n) (by rw [HLL.out]; exact h.own.byts) 1048576 hk4
      have HTF := Lib.hid htf
      have hz := hzr
      have hk := hkr
      have hs := hsr
      clear htf hzr hkr hsr hk4
      have hka0 : Below wr.heap.size wr (wr.alloc (.cells #[.slice (some ⟨zb, 0, none⟩) 1048576 n, .int .i64 (-1)] 28)) := (Below.refl _ wr).alloc (Nat.le_refl _) _
      replace hz := hz.below hka0
      replace hk := hk.trans (hka0.mono hs)
      replace hs := Nat.le_trans hs hka0.size
      have q10 := Blk.new wr #[.slice (some ⟨zb, 0, none⟩) 1048576 n, .int .i64 (-1)] 28
      clear hka0
      go_upto_region 12 with fail
      obtain ⟨V0, hV0⟩ : ∃ X, wr.alloc (.cells #[.slice (some ⟨zb, 0, none⟩) 1048576 n, .int .i64 (-1)] 28) = X := ⟨_, rfl⟩
      obtain ⟨b10, hx0⟩ : ∃ X, wr.heap.size = X := ⟨_, rfl⟩
      rw [hV0] at hz hk hs q10 ⊢
      rw [hx0] at q10 ⊢
      clear hV0 hx0
      obtain ⟨c0, c1, f0, f1⟩ := q10.two
      have hone : Byts (V0.alloc (.cells #[.int .u8 1] 5)).heap.size (V0.alloc (.cells #[.int .u8 1] 5)) (.slice (some ⟨V0.heap.size, 0, none⟩) 1 1) [1] := by simpa using Byts.one V0 1 5 1 rfl
      have hkb0 : Below V0.heap.size V0 (V0.alloc (.cells #[.int .u8 1] 5)) := (Below.refl _ V0).alloc (Nat.le_refl _) _
      replace hz := hz.below hkb0
      replace hk := hk.trans (hkb0.mono hs)
      replace hs := Nat.le_trans hs hkb0.size
      replace q10 := q10.below hkb0 q10.lt
      clear hkb0
      go_wp2_with fail
      refine (wr_at HL.out.w1 _ _ _ _ (HTF.out _ hz) hone (Nat.le_refl _) (by show (-1 : Int) ≤ 2 ^ 63 - 1; decide)).mono ?_
      rintro e V1a ⟨xa1, xc1, rfl, ho1, hb1⟩
      replace hz := hz.below hb1
      replace hk := hk.trans (hb1.mono hs)
      replace hs := Nat.le_trans hs hb1.size
      replace q10 := q10.below hb1 q10.lt
      have hka1 : Below V1a.heap.size V1a (V1a.alloc (.cells #[.slice xa1 zSt.data.length xc1, .int .i64 zSt.power] 28)) := (Below.refl _ V1a).alloc (Nat.le_refl _) _
      replace hz := hz.below hka1
      replace hk := hk.trans (hka1.mono hs)
      replace hs := Nat.le_trans hs hka1.size
      replace q10 := q10.below hka1 q10.lt
      have qn := Blk.new V1a #[.slice xa1 zSt.data.length xc1, .int .i64 zSt.power] 28
      clear ho1 hb1 hka1 hone c0 c1 f0 f1
      go_upto_region 13 with fail
      obtain ⟨V1, hW1⟩ : ∃ X, V1a.alloc (.cells #[.slice xa1 zSt.data.length xc1, .int .i64 zSt.power] 28) = X := ⟨_, rfl⟩
      obtain ⟨bV1, hx1⟩ : ∃ X, V1a.heap.size = X := ⟨_, rfl⟩
      rw [hW1] at hz hk hs q10 qn ⊢
      rw [hx1] at qn ⊢
      clear hW1 hx1
      clear qn
      obtain ⟨c0, c1, f0, f1⟩ := q10.two
      go_wp2_with fail
      refine (wr_at HL.out.w2 _ _ _ _ (HTF.out _ hz) (Byts.nil none 0 (by simp [maxLen]) (fun _ => rfl)) (Nat.le_refl _) (by show (-1 : Int) ≤ 2 ^ 63 - 1; decide)).mono ?_
      rintro e V2a ⟨xa2, xc2, rfl, ho2, hb2⟩
      replace hz := hz.below hb2
      replace hk := hk.trans (hb2.mono hs)
      replace hs := Nat.le_trans hs hb2.size
      replace q10 := q10.below hb2 q10.lt
      have hka2 : Below V2a.heap.size V2a (V2a.alloc (.cells #[.slice xa2 zf.length xc2, .int .i64 (-1)] 28)) := (Below.refl _ V2a).alloc (Nat.le_refl _) _
      replace hz := hz.below hka2
      replace hk := hk.trans (hka2.mono hs)
      replace hs := Nat.le_trans hs hka2.size
      replace q10 := q10.below hka2 q10.lt
      have qn := Blk.new V2a #[.slice xa2 zf.length xc2, .int .i64 (-1)] 28
      clear ho2 hb2 hka2 c0 c1 f0 f1
      go_upto_region 14 with fail
      obtain ⟨V2, hW2⟩ : ∃ X, V2a.alloc (.cells #[.slice xa2 zf.length xc2, .int .i64 (-1)] 28) = X := ⟨_, rfl⟩
      obtain ⟨bV2, hx2⟩ : ∃ X, V2a.heap.size = X := ⟨_, rfl⟩
      rw [hW2] at hz hk hs q10 qn ⊢
      rw [hx2] at qn ⊢
      clear hW2 hx2
      clear qn
      go_wp2_with fail
      refine (wr_at HL.out.w3 _ _ _ _ hz.own.byts (Byts.nil none 0 (by simp [maxLen]) (fun _ => rfl)) (Nat.le_refl _) (by show (-1 : Int) ≤ 2 ^ 63 - 1; decide)).mono ?_
      rintro e V3a ⟨xa3, xc3, rfl, ho3, hb3⟩
      replace hz := hz.below hb3
      replace hk := hk.trans (hb3.mono hs)
      replace hs := Nat.le_trans hs hb3.size
      replace q10 := q10.below hb3 q10.lt
      have hka3 : Below V3a.heap.size V3a (V3a.alloc (.cells #[.slice xa3 zSt.data.length xc3, .int .i64 zSt.power] 28)) := (Below.refl _ V3a).alloc (Nat.le_refl _) _
      replace hz := hz.below hka3
      replace hk := hk.trans (hka3.mono hs)
      replace hs := Nat.le_trans hs hka3.size
      replace q10 := q10.below hka3 q10.lt
      have qn := Blk.new V3a #[.slice xa3 zSt.data.length xc3, .int .i64 zSt.power] 28
      clear ho3 hb3 hka3 
      go_upto_region 15 with fail
      obtain ⟨V3, hW3⟩ : ∃ X, V3a.alloc (.cells #[.slice xa3 zSt.data.length xc3, .int .i64 zSt.power] 28) = X := ⟨_, rfl⟩
      obtain ⟨bV3, hx3⟩ : ∃ X, V3a.heap.size = X := ⟨_, rfl⟩
      rw [hW3] at hz hk hs q10 qn ⊢
      rw [hx3] at qn ⊢
      clear hW3 hx3
      clear qn
      go_wp2_with fail
      refine (wr_at HL.out.w4 V3.heap.size _ _ V3 (Byts.nil none 0 (by simp [maxLen]) (fun _ => rfl)) (Byts.nil none 0 (by simp [maxLen]) (fun _ => rfl)) (Nat.le_refl _) (by show (-2 : Int) ≤ 2 ^ 63 - 1; decide)).mono ?_
      rintro e V4a ⟨xa4, xc4, rfl, ho4, hb4⟩
      replace hz := hz.below hb4
      replace hk := hk.trans (hb4.mono hs)
      replace hs := Nat.le_trans hs hb4.size
      replace q10 := q10.below hb4 q10.lt
      have hka4 : Below V4a.heap.size V4a (V4a.alloc (.cells #[.slice xa4 zSt.data.length xc4, .int .i64 zSt.power] 28)) := (Below.refl _ V4a).alloc (Nat.le_refl _) _
      replace hz := hz.below hka4
      replace hk := hk.trans (hka4.mono hs)
      replace hs := Nat.le_trans hs hka4.size
      replace q10 := q10.below hka4 q10.lt
      have qn := Blk.new V4a #[.slice xa4 zSt.data.length xc4, .int .i64 zSt.power] 28
      clear ho4 hb4 hka4 
      go_upto_region 16 with fail
      obtain ⟨V4, hW4⟩ : ∃ X, V4a.alloc (.cells #[.slice xa4 zSt.data.length xc4, .int .i64 zSt.power] 28) = X := ⟨_, rfl⟩
      obtain ⟨bV4, hx4⟩ : ∃ X, V4a.heap.size = X := ⟨_, rfl⟩
      rw [hW4] at hz hk hs q10 qn ⊢
      rw [hx4] at qn ⊢
      clear hW4 hx4
      clear qn
      go_wp2_with fail
      refine (open_at HL.out.o5 _ _ _ hz.own.byts (Nat.le_refl _) (by show (-1 : Int) ≤ 2 ^ 63 - 1; decide)).mono ?_
      rintro e V5a ⟨xa5, xc5, pa5, pc5, rfl, ho5, ht5, hb5⟩
      replace hz := hz.below hb5
      replace hk := hk.trans (hb5.mono hs)
      replace hs := Nat.le_trans hs hb5.size
      replace q10 := q10.below hb5 q10.lt
      have hka5 : Below V5a.heap.size V5a (V5a.alloc (.cells #[.slice xa5 zLg.st.data.length xc5, .int .i64 zLg.st.power, .int .i64 zLg.count, .bool zLg.down] 32)) := (Below.refl _ V5a).alloc (Nat.le_refl _) _
      replace hz := hz.below hka5
      replace hk := hk.trans (hka5.mono hs)
      replace hs := Nat.le_trans hs hka5.size
      replace q10 := q10.below hka5 q10.lt
      have qn := Blk.new V5a #[.slice xa5 zLg.st.data.length xc5, .int .i64 zLg.st.power, .int .i64 zLg.count, .bool zLg.down] 32
      clear ho5 hb5 hka5 ht5
      go_upto_region 17 with fail
      obtain ⟨V5, hW5⟩ : ∃ X, V5a.alloc (.cells #[.slice xa5 zLg.st.data.length xc5, .int .i64 zLg.st.power, .int .i64 zLg.count, .bool zLg.down] 32) = X := ⟨_, rfl⟩
      obtain ⟨bV5, hx5⟩ : ∃ X, V5a.heap.size = X := ⟨_, rfl⟩
      rw [hW5] at hz hk hs q10 qn ⊢
      rw [hx5] at qn ⊢
      clear hW5 hx5
      clear qn
      obtain ⟨c0, c1, f0, f1⟩ := q10.two
      go_wp2_with fail
      refine (open_at HL.out.o6 _ _ _ (HTF.out _ hz) (Nat.le_refl _) (by show (-1 : Int) ≤ 2 ^ 63 - 1; decide)).mono ?_
      rintro e V6a ⟨xa6, xc6, pa6, pc6, rfl, ho6, ht6, hb6⟩
      replace hz := hz.below hb6
      replace hk := hk.trans (hb6.mono hs)
      replace hs := Nat.le_trans hs hb6.size
      replace q10 := q10.below hb6 q10.lt
      have hka6 : Below V6a.heap.size V6a (V6a.alloc (.cells #[.slice xa6 0 xc6, .int .i64 (-1), .int .i64 0, .bool false] 32)) := (Below.refl _ V6a).alloc (Nat.le_refl _) _
      replace hz := hz.below hka6
      replace hk := hk.trans (hka6.mono hs)
      replace hs := Nat.le_trans hs hka6.size
      replace q10 := q10.below hka6 q10.lt
      have qn := Blk.new V6a #[.slice xa6 0 xc6, .int .i64 (-1), .int .i64 0, .bool false] 32
      clear ho6 hb6 hka6 ht6 c0 c1 f0 f1
      go_upto_region 18 with fail
      obtain ⟨V6, hW6⟩ : ∃ X, V6a.alloc (.cells #[.slice xa6 0 xc6, .int .i64 (-1), .int .i64 0, .bool false] 32) = X := ⟨_, rfl⟩
      obtain ⟨bV6, hx6⟩ : ∃ X, V6a.heap.size = X := ⟨_, rfl⟩
      rw [hW6] at hz hk hs q10 qn ⊢
      rw [hx6] at qn ⊢
      clear hW6 hx6
      obtain ⟨c0, c1, c2, c3, f0, f1, f2, f3⟩ := qn.four
      go_wp2_with fail
      go_ret
      exact ⟨rfl, by rw [HZB.out]; exact hk⟩
end Go.Proofs.YtkdlimigepkepaaGreat

