/- GuardCellsDecide: the walk. No conditions beyond the readings of the arguments. -/
import Derived.Test.YthooiobhlbnaoaaGreatGlMC
import Derived.Test.YthooiobhlbnaoaaGreatGlAwk
namespace Go.Proofs.YthooiobhlbnaoaaGreat
open Go.RowKit
set_option linter.unusedVariables false

theorem U8s.take {K : Nat} {w : World} {a : Option Addr} {n cap : Nat} {l : List Nat} (h : U8s K w (.slice a n cap) l) (k : Nat) (hk : k ≤ n) (hn : n = l.length) : U8s K w (.slice a k cap) (l.take k) := by
  subst hn
  obtain ⟨a', cap', he, h1, h2, h3, h4⟩ := h
  simp only [Value.slice.injEq, true_and] at he
  obtain ⟨rfl, rfl⟩ := he
  unfold U8s
  rw [List.length_take, Nat.min_eq_left hk]
  refine ⟨a, cap, rfl, Nat.le_trans hk h1, h2, h3, fun i hi => ?_⟩
  obtain ⟨b, o, e, hb, hc⟩ := h4 i (by omega)
  refine ⟨b, o, e, hb, fun j hj => ?_⟩
  rw [hc j hj]
  show some (Value.int .u8 ((l[i]?.getD 0 : Nat) : Int)) = some (Value.int .u8 (((l.take k)[i]?.getD 0 : Nat) : Int))
  rw [List.getElem?_take, if_pos hi]
section
variable {P : Program} {ops : Array Oper} {rest : List Oper} {o : Oper} {a : Act} {w : World} {Q : Exit → Act → World → Prop}
theorem wpList_wantW (hw : Region.wanted o (yielded ops a.tmps) = true) (h : ∀ K : Act → World → Prop, (∀ a w, wpList P ops Q rest a w → K a w) → o.wp P a w K Q) : wpList P ops Q (o :: rest) a w :=
  wpList_step fun K hK => by rw [if_pos hw]; exact h K hK
/-- The load of a row, where its guard lets it by. -/
theorem wpList_load_midW (hw : Region.wanted o (yielded ops a.tmps) = true) (ty : TypeId) (x : Operand) (ho : o.op = .load ty x)
    (b p : Nat) (hx : a.eval x = .pointer (some ⟨b, p, none⟩)) (cs : List Value) (d : TypeDesc) (hc : w.rangeAt b p cs)
    (hu : P.underlying ty = some d) (hd : d.isRow = true) (hi : (P.info? ty).map (·.size) = some cs.length)
    (h : wpList P ops Q rest (a.put o.dst (.agg cs.toArray)) w) : wpList P ops Q (o :: rest) a w :=
  wpList_wantW hw fun _ hK => wp_load_mid ty x ho b p hx cs d hc hu hd hi (hK _ _ h)
end
theorem setRow_alloc2 (w : World) (c c' : Array Value) (t : TypeId) (o : Obj) : ((w.alloc (.cells c t)).alloc o).setRow w.heap.size c' = (w.alloc (.cells c' t)).alloc o := by
  have h1 := World.setRow_alloc_new w c c' t
  have h2 : ((w.alloc (.cells c t)).alloc o).setRow w.heap.size c' = ((w.alloc (.cells c t)).setRow w.heap.size c').alloc o := by
    unfold World.setRow World.alloc
    congr 1
    apply Array.ext_getElem?
    intro i
    simp only [Array.getElem?_modify, Array.getElem?_push, Array.size_push, Array.size_modify]
    by_cases h : w.heap.size = i
    · subst h; simp
    · simp [h]
  rw [h2, h1]
/-- A struct is stored into the last block but one. -/
theorem wpList_store_new2 {ops : Array Oper} {rest : List Oper} {op : Oper} {a : Act} {w : World} {Q : Exit → Act → World → Prop} (hgd : op.guard = none) (ty : TypeId) (x y : Operand) (ho : op.op = .store ty x y) (cs old : Array Value) (o2 : Obj)
    (hi : (Tryz.prog.info? ty).map (fun i => i.size) = some cs.size) (hsz : old.size = cs.size) (h1 : ∀ v ∈ cs, v.oneCell' = true) (b : Nat) (hb : b = w.heap.size)
    (hx : a.eval x = .pointer (some ⟨b, 0, none⟩)) (hy : a.eval y = .agg cs)
    (h : wpList Tryz.prog ops Q rest (a.put op.dst undef) ((w.alloc (.cells cs ty)).alloc o2)) : wpList Tryz.prog ops Q (op :: rest) a ((w.alloc (.cells old ty)).alloc o2) := by
  subst hb
  refine wpList_store_row hgd ty x y ho w.heap.size cs hx hy ty old ((Blk.new w old ty).alloc o2) hi hsz (by rw [Array.all_eq_true_iff_forall_mem]; exact h1) ?_
  rw [setRow_alloc2]
  exact h
/-- What is to be shown of a made condition: it has few parts, and small values. -/
theorem made_fits (l : List Nat) (hl : l.length ≤ 30) : fits (madeM 6 l).1 = true ∧ fits (.mk 17 [] v0 [(madeM 6 l).1]) = true := by
  have h1 := madeM_size 6 l
  have h2 := madeM_depth 6 l
  unfold fits
  simp only [Gx.parts, partsL, Gx.depth, depthL, Bool.and_eq_true, decide_eq_true_eq]
  exact ⟨⟨by omega, by omega⟩, decide_eq_true (by omega), decide_eq_true (by omega)⟩
theorem no_tests (e : Gx) : ∀ t, t ∈ (Gx.mk 17 [] v0 [e]).tests → t ∈ e.tests := by
  intro t ht
  rw [tests_mkM, if_neg (by simp [Gx.settled, Gx.op]), if_pos (by simp [Gx.composed, Gx.op, Gx.args])] at ht
  simpa [Gx.args, testsL] using ht
theorem no_true (vals : Nat → Vq) (e : Gx) : trueG vals (.mk 17 [] v0 [e]) = !trueG vals e := by
  rw [trueG, if_neg (by decide), if_pos (by decide)]; simp [combG, trueL]

set_option maxRecDepth 100000 in
set_option maxHeartbeats 40000000 in
theorem gldecide_any (K : Nat) (m : List Nat) (mv : Value) (n : List Nat) (nv : Value) (nl : List Nat) (arr : Array Value) (w : World) (hm : U8s K w mv m) (hxm : ∀ y ∈ m, y < 256) (hn : U8s K w nv n) (hxn : ∀ y ∈ n, y < 256)
    (hl : nl.length = 12) (hx : ∀ y ∈ nl, y < 256) (harr : arr = (nl.map fun n : Nat => Value.int .u8 (n : Int)).toArray) (hK : K ≤ w.heap.size) :
    Calls Tryz.prog 5 #[mv, nv, .agg arr] w fun e w' => e = .returned (.bool true) ∧ Below w.heap.size w w' := by
  obtain ⟨ma, mc, rfl, hmc, hmm⟩ := id (RowsV.form hm)
  obtain ⟨na, nc, rfl, hnc, hnm⟩ := id (RowsV.form hn)
  unfold maxLen at hmm hnm
  obtain ⟨mk, hmk⟩ : ∃ k, min m.length 30 = k := ⟨_, rfl⟩
  obtain ⟨nk, hnk⟩ : ∃ k, min n.length 30 = k := ⟨_, rfl⟩
  have hm2 := hm.take mk (by omega) rfl
  have hn2 := hn.take nk (by omega) rfl
  obtain ⟨m2, hm2e⟩ : ∃ l, m.take mk = l := ⟨_, rfl⟩
  obtain ⟨n2, hn2e⟩ : ∃ l, n.take nk = l := ⟨_, rfl⟩
  have hxm2 : ∀ y ∈ m2, y < 256 := fun y hy => hxm y (List.mem_of_mem_take (hm2e ▸ hy))
  have hxn2 : ∀ y ∈ n2, y < 256 := fun y hy => hxn y (List.mem_of_mem_take (hn2e ▸ hy))
  have hml : m2.length ≤ 30 := by rw [← hm2e, List.length_take]; omega
  have hnl : n2.length ≤ 30 := by rw [← hn2e, List.length_take]; omega
  rw [hm2e] at hm2
  rw [hn2e] at hn2
  have hmim : (if (30 : Int) < (m.length : Int) then (30 : Int) else (m.length : Int)) = (mk : Int) := by split <;> omega
  have hmin : (if (30 : Int) < (n.length : Int) then (30 : Int) else (n.length : Int)) = (nk : Int) := by split <;> omega
  obtain ⟨ml, hmle⟩ : ∃ k, m.length = k := ⟨_, rfl⟩
  obtain ⟨nle, hnle⟩ : ∃ k, n.length = k := ⟨_, rfl⟩
  rw [hmle] at hmc hmk hmim ⊢
  rw [hnle] at hnc hnk hmin ⊢
  have hmkc : mk ≤ mc := by omega
  have hnkc : nk ≤ nc := by omega
  clear hm hn hm2e hn2e hxm hxn hmle hnle
  obtain ⟨W1, hW1⟩ : ∃ W1, w.alloc (.cells arr 69) = W1 := ⟨_, rfl⟩
  have b1 : Below w.heap.size w W1 := by rw [← hW1]; exact (Below.refl _ _).alloc (Nat.le_refl _) _
  have q1 : Blk W1 w.heap.size arr 69 := by rw [← hW1]; exact Blk.new w _ _
  have s1 : W1.heap.size = w.heap.size + 1 := by rw [← hW1]; simp
  obtain ⟨B, hB⟩ : ∃ B, w.heap.size = B := ⟨_, rfl⟩
  have HB := Lib.hid hB
  have HW := Lib.hid hW1
  rw [hB] at b1 q1 s1 hK ⊢
  have HM := Lib.hid (hm2.below b1 hK (Nat.le_refl K))
  have HN := Lib.hid (hn2.below b1 hK (Nat.le_refl K))
  have HQ1 := Lib.hid q1
  have HB1 := Lib.hid b1
  have S1 := Lib.hid s1
  have HMK := Lib.hid hmim
  have HMK2 : Hid (min (ml : Int) 30 = (mk : Int)) := Lib.hid (by omega)
  have HNK2 : Hid (min (nle : Int) 30 = (nk : Int)) := Lib.hid (by omega)
  have HNK := Lib.hid hmin
  have HARR := Lib.hid harr
  have HX := Lib.hid hx
  have HL := Lib.hid hl
  have HXM := Lib.hid hxm2
  have HXN := Lib.hid hxn2
  have HML := Lib.hid hml
  have HNL := Lib.hid hnl
  clear hB hW1 hm2 hn2 q1 b1 s1 harr hx hl hxm2 hxn2 hml hnl hmim hmin hmk hnk
  go_enter Tryz.func5, Tryz.ntmps5
  go_upto_region 1 with fail
  simp only [HB.out]
  rw [HW.out]
  clear HW
  refine region_WQ (fun W' => Below W1.heap.size W1 W') (by kernel_rfl) (by kernel_rfl) ⟨rfl, rfl, rfl, Nat.le_refl _, fun _ _ => rfl⟩ ?_
  refine WQ.take (.slice ma ml mc) (.inl ⟨by kernel_rfl, fun W' hS => by go_simp <;> exact hS⟩) ?_
  refine WQ.take (.slice ma ml mc) (.inl ⟨by kernel_rfl, fun W' hS => by go_simp <;> exact hS⟩) ?_
  refine WQ.take (.int .i64 ml) (.inl ⟨by kernel_rfl, fun W' hS => by go_simp <;> exact hS⟩) ?_
  refine WQ.take (.int .i64 mk) (.inl ⟨by kernel_rfl, fun W' hS => by have hmk := HMK.out; go_simp <;> first | exact hS | exact HMK2.out⟩) ?_
  refine WQ.take (.slice ma mk mc) (.inl ⟨by kernel_rfl, fun W' hS => by go_simp <;> exact hS⟩) ?_
  refine WQ.take (.slice na nle nc) (.inl ⟨by kernel_rfl, fun W' hS => by go_simp <;> exact hS⟩) ?_
  refine WQ.take (.slice na nle nc) (.inl ⟨by kernel_rfl, fun W' hS => by go_simp <;> exact hS⟩) ?_
  refine WQ.take (.int .i64 nle) (.inl ⟨by kernel_rfl, fun W' hS => by go_simp <;> exact hS⟩) ?_
  refine WQ.take (.int .i64 nk) (.inl ⟨by kernel_rfl, fun W' hS => by have hnk := HNK.out; go_simp <;> first | exact hS | exact HNK2.out⟩) ?_
  refine WQ.take (.slice na nk nc) (.inl ⟨by kernel_rfl, fun W' hS => by go_simp <;> exact hS⟩) ?_
  refine WQ.take (.slice ma mk mc) (.inl ⟨by kernel_rfl, fun W' hS => by go_simp <;> exact hS⟩) ?_
  refine WQ.take (.slice na nk nc) (.inl ⟨by kernel_rfl, fun W' hS => by go_simp <;> exact hS⟩) ?_
  refine WQ.nil ?_
  intro W2 hS2
  go_simp
  have b12 : Below W1.heap.size W1 W2 := hS2
  have b2 : Below B w W2 := HB1.out.trans (hS2.mono (by have := S1.out; omega))
  have hs2 := b2.size
  have hBw := HB.out
  have hma := gMade_any K m2 (.slice ma mk mc) W2 (HM.out.below b12 (by have := S1.out; omega) (Nat.le_refl _)) HXM.out (by omega) (by have := HML.out; omega)
  have HMA := Lib.hid hma
  have hfa := made_fits m2 HML.out
  have hfb := made_fits n2 HNL.out
  have hda := madeM_md 6 m2
  have hdb := madeM_md 6 n2
  obtain ⟨ea, hea⟩ : ∃ e, (madeM 6 m2).1 = e := ⟨_, rfl⟩
  obtain ⟨eb, heb⟩ : ∃ e, (madeM 6 n2).1 = e := ⟨_, rfl⟩
  rw [hea] at HMA hfa hda
  rw [heb] at hfb hdb
  have HEB := Lib.hid heb
  clear hma hS2 hea heb
  go_wp2_with fail
  refine HMA.out.mono ?_
  rintro e w3 ⟨X, rfl, hX, hb3⟩
  clear HMA
  have hs3 := hb3.size
  have b13 : Below W1.heap.size W1 w3 := b12.trans (hb3.mono b12.size)
  have b3 : Below B w w3 := b2.trans (hb3.mono (by omega))
  have hmb := gMade_any K n2 (.slice na nk nc) w3 (HN.out.below b13 (by have := S1.out; omega) (Nat.le_refl _)) HXN.out (by omega) (by have := HNL.out; omega)
  rw [HEB.out] at hmb
  have HMB := Lib.hid hmb
  have HXE := Lib.hid hX.now
  clear hmb hX hb3 HM HN HEB
  go_wp2_with fail
  refine HMB.out.mono ?_
  rintro e w4 ⟨Y, rfl, hY, hb4⟩
  clear HMB
  have hs4 := hb4.size
  have b14 : Below W1.heap.size W1 w4 := b13.trans (hb4.mono b13.size)
  have b4 : Below B w w4 := b3.trans (hb4.mono (by omega))
  have HXE4 := Lib.hid (HXE.out.below hb4 (Nat.le_refl _) hb4.size)
  have HYE4 := Lib.hid hY.now
  clear HXE hY hb4 b12 b13 b3 b2
  have hX1 : Hid (∀ v ∈ X.cells, v.oneCell' = true) := Lib.hid (by simp [Value.oneCell'])
  have hY1 : Hid (∀ v ∈ Y.cells, v.oneCell' = true) := Lib.hid (by simp [Value.oneCell'])
  go_upto_region 3 with (first
    | (refine wpList_store_new2 rfl 32 (.tmp 7) (.tmp 31) rfl X.cells _ _ infoExN rfl hX1.out w4.heap.size rfl rfl rfl ?_)
    | (refine wpList_store_new rfl 32 (.tmp 8) (.tmp 33) rfl Y.cells _ infoExN rfl hY1.out (w4.heap.size + 1) (by simp) rfl rfl ?_))
  obtain ⟨T, hT⟩ : ∃ T, w4.heap.size = T := ⟨_, rfl⟩
  obtain ⟨W5, hW5⟩ : ∃ W5, (w4.alloc (.cells X.cells 32)).alloc (.cells Y.cells 32) = W5 := ⟨_, rfl⟩
  have b5' : Below T w4 W5 := by rw [← hW5, ← hT]; exact ((Below.refl _ _).alloc (Nat.le_refl _) _).alloc (by simp) _
  have qX : Blk W5 T X.cells 32 := by rw [← hW5, ← hT]; exact (Blk.new w4 _ _).alloc _
  have qY : Blk W5 (T + 1) Y.cells 32 := by
    rw [← hW5, ← hT]
    have := Blk.new (w4.alloc (.cells X.cells 32)) Y.cells 32
    rwa [World.size_alloc] at this
  have s5 : W5.heap.size = T + 2 := by rw [← hW5, ← hT]; simp
  have HW5 := Lib.hid hW5
  dsimp only [Xv.cells] at HW5
  have HT := Lib.hid hT
  rw [hT] at HXE4 HYE4 hs4
  have HX5 := Lib.hid (HXE4.out.below b5' (Nat.le_refl _) (show T ≤ W5.heap.size by omega))
  have HY5 := Lib.hid (HYE4.out.below b5' (Nat.le_refl _) (show T ≤ W5.heap.size by omega))
  have b5 : Below B w W5 := b4.trans (b5'.mono (by omega))
  have b15 : Below W1.heap.size W1 W5 := b14.trans (b5'.mono (by have := b14.size; omega))
  obtain ⟨c0, c1, c2, c3, c4, c5, c6, c7, c8⟩ := qX.nine
  obtain ⟨d0, d1, d2, d3, d4, d5, d6, d7, d8⟩ := qY.nine
  simp only [HT.out]
  rw [HW5.out]
  have S5 := Lib.hid s5
  have HS4 := Lib.hid hs4
  have HS3 := Lib.hid hs3
  have HS2 := Lib.hid hs2
  have HBW := Lib.hid hBw
  clear hW5 hT HW5 HXE4 HYE4 b5' b4 b14 hX1 hY1 s5 hs4 hs3 hs2 hBw
  go_wp2_with fail
  generalize hW6 : World.alloc W5 _ = W6
  have b6' : Below W5.heap.size W5 W6 := by rw [← hW6]; exact (Below.refl _ _).alloc (Nat.le_refl _) _
  have q6 : Blk W6 W5.heap.size (cells2 X Y) 32 := by rw [← hW6]; exact Blk.new W5 _ _
  have hs6 := b6'.size
  have s5 := S5.out
  have hs4 := HS4.out
  have hs3 := HS3.out
  have hs2 := HS2.out
  have hBw := HBW.out
  have hX6 := HX5.out.below b6' (by omega) hs6
  have hY6 := HY5.out.below b6' (by omega) hs6
  obtain ⟨ls, hls, hLM, hLF, hHas⟩ := scales_M (es := [ea, eb]) (fun e he => by
    simp only [List.mem_cons, List.not_mem_nil, or_false] at he
    rcases he with rfl | rfl
    · exact hda
    · exact hdb) (fun e he => by
    simp only [List.mem_cons, List.not_mem_nil, or_false] at he
    rcases he with rfl | rfl
    · exact hfa.1
    · exact hfb.1)
  have hsc := scales_any W6.heap.size (.slice (some ⟨W5.heap.size, 0, none⟩) 2 2) [ea, eb] (g2x X Y) W6 (rows_ex2 q6 q6.lt) (fun i a ha => by
    rcases i with _ | _ | i
    · cases ha; exact hX6
    · cases ha; exact hY6
    · cases ha) (fun a ha => by
    simp only [List.mem_cons, List.not_mem_nil, or_false] at ha
    rcases ha with rfl | rfl
    · exact md_good hda
    · exact md_good hdb) (Nat.le_refl _)
  rw [hls] at hsc
  have HSC := Lib.hid hsc
  clear hW6 hsc c0 c1 c2 c3 c4 c5 c6 c7 c8 d0 d1 d2 d3 d4 d5 d6 d7 d8 hX6 hY6 q6 hls
  refine HSC.out.mono ?_
  rintro e w7 ⟨lv, rfl, hlv, hb7⟩
  clear HSC
  have hs7 := hb7.size
  have b57 : Below W5.heap.size W5 w7 := b6'.trans (hb7.mono b6'.size)
  obtain ⟨la, lc, rfl, _, hlcm⟩ := id hlv.form
  have b17 : Below W1.heap.size W1 w7 := b15.trans (b57.mono b15.size)
  have hr7 : w7.rangeAt B 0 arr.toList := (HQ1.out.below b17 HQ1.out.lt).range
  have hi12 : (Tryz.prog.info? 69).map (fun i => i.size) = some arr.toList.length := by rw [show (Tryz.prog.info? 69).map (fun i => i.size) = some 12 by kernel_rfl, HARR.out]; simp [HL.out]
  have HLV := Lib.hid hlv
  have hval := gvalues_any nl arr HL.out HX.out HARR.out w7
  have HVAL := Lib.hid hval
  clear hval hlv hb7 b6' b15
  go_upto_region 6 with fail
  go_wp2_with (refine wpList_load_mid rfl 69 (.tmp 5) rfl B 0 rfl arr.toList _ hr7 Tryz.underlying69 rfl hi12 ?_)
  refine HVAL.out.mono ?_
  rintro e w8 ⟨g, rfl, hg, hb8⟩
  clear HVAL hr7 hi12
  have hs8 := hb8.size
  have hg8 : ∀ k, k < 12 → VlX w8.heap.size w8 (valsM nl k) (g k) := fun k hk => hg k hk _ (NewW.refl _ _)
  have h72 : ∀ v ∈ (cells72 g).toArray, v.oneCell' = true := by
    intro v hv
    rw [List.mem_toArray] at hv
    unfold cells72 at hv
    obtain ⟨j, hj, rfl⟩ := List.mem_map.1 hv
    rw [List.mem_range] at hj
    obtain ⟨a1, m1, e1, _⟩ := (hg8 (j / 6) (by omega)).n.form
    obtain ⟨a2, m2, e2, _⟩ := (hg8 (j / 6) (by omega)).d.form
    exact vv_cell_one _ (by rw [e1]; rfl) (by rw [e2]; rfl) _
  have hi72 : (Tryz.prog.info? 71).map (fun i => i.size) = some (cells72 g).toArray.size := by rw [infoV12]; simp [cells72_len]
  have H72 := Lib.hid h72
  have HI72 := Lib.hid hi72
  have HG8 := Lib.hid hg8
  clear h72 hi72 hg hg8
  go_upto_region 7 with (refine wpList_store_new rfl 71 (.tmp 11) (.tmp 44) rfl (cells72 g).toArray _ HI72.out (by simp [cells72_len]) H72.out w8.heap.size rfl rfl rfl ?_)
  obtain ⟨T9, hT9⟩ : ∃ T, w8.heap.size = T := ⟨_, rfl⟩
  obtain ⟨W9, hW9⟩ : ∃ W9, w8.alloc (.cells (cells72 g).toArray 71) = W9 := ⟨_, rfl⟩
  have b9' : Below T9 w8 W9 := by rw [← hW9, ← hT9]; exact (Below.refl _ _).alloc (Nat.le_refl _) _
  have q9 : Blk W9 T9 (cells72 g).toArray 71 := by rw [← hW9, ← hT9]; exact Blk.new w8 _ _
  have s9 : W9.heap.size = T9 + 1 := by rw [← hW9, ← hT9]; simp
  have HW9 := Lib.hid hW9
  have HT9 := Lib.hid hT9
  have hg8 := HG8.out
  rw [hT9] at hg8 hs8
  have HG9 : Hid (∀ k, k < 12 → VlX T9 W9 (valsM nl k) (g k)) := Lib.hid fun k hk => (hg8 k hk).below b9' (Nat.le_refl _) (Nat.le_refl _)
  have b79 : Below w7.heap.size w7 W9 := hb8.trans (b9'.mono (by omega))
  have b59 : Below W5.heap.size W5 W9 := b57.trans (b79.mono (by omega))
  have HLV9 := Lib.hid (HLV.out.below b79 (Nat.le_refl _) b79.size)
  have r9 : W9.rangeAt T9 0 (cells72 g) := by have := q9.range; simpa using this
  have hi72l : (Tryz.prog.info? 71).map (fun i => i.size) = some (cells72 g).length := by rw [infoV12, cells72_len]
  simp only [HT9.out]
  rw [HW9.out]
  have hpl := gplace_any W9.heap.size (.slice la ls.length lc) ls nl g W9 HLV9.out hLM hLF (fun k hk => (HG9.out k hk).below (Below.refl _ _) (Nat.le_refl _) (by omega)) (Nat.le_refl _)
  obtain ⟨CS, hCS⟩ : ∃ l, cellsM (valsM nl) ls = l := ⟨_, rfl⟩
  rw [hCS] at hpl
  have HCS := Lib.hid hCS
  obtain ⟨ln, hln⟩ : ∃ k, ls.length = k := ⟨_, rfl⟩
  rw [hln] at hpl HLV9 ⊢
  have HPL := Lib.hid hpl
  have HI72l := Lib.hid hi72l
  clear hCS hln hW9 hT9 HW9 hg8 hb8 b9' hpl HLV b57 b17 hi72l HG8
  go_wp2_with (refine wpList_load_mid rfl 71 (.tmp 11) rfl T9 0 rfl (cells72 g) _ r9 Tryz.underlying71 rfl HI72l.out ?_)
  refine HPL.out.mono ?_
  rintro e w10 ⟨cv, rfl, hcv, hb10⟩
  clear HPL r9
  obtain ⟨ca, cc, rfl, _, _⟩ := id hcv.form
  have hs10 := hb10.size
  have b510 : Below W5.heap.size W5 w10 := b59.trans (hb10.mono b59.size)
  obtain ⟨c0, c1, c2, c3, c4, c5, c6, c7, c8⟩ := (qX.below b510 qX.lt).nine
  obtain ⟨d0, d1, d2, d3, d4, d5, d6, d7, d8⟩ := (qY.below b510 qY.lt).nine
  have HLV10 := Lib.hid (HLV9.out.below hb10 (Nat.le_refl _) hb10.size)
  have HG10 : Hid (∀ k, k < 12 → VlX T9 w10 (valsM nl k) (g k)) := Lib.hid fun k hk => (HG9.out k hk).below hb10 (by omega) (Nat.le_refl _)
  have HCV := Lib.hid hcv
  have q10 := q9.below hb10 q9.lt
  have hb510 := b510.size
  have HX10 := Lib.hid (HX5.out.below b510 (Nat.le_refl _) b510.size)
  have HY10 := Lib.hid (HY5.out.below b510 (Nat.le_refl _) b510.size)
  have b10 : Below B w w10 := b5.trans (b510.mono (by omega))
  obtain ⟨cn, hcn⟩ : ∃ k, CS.length = k := ⟨_, rfl⟩
  rw [hcn] at HCV ⊢
  clear hcn hcv HLV9 HG9 hb10 b59 b79 HX5 HY5
  go_wp2_with fail
  generalize hWx : World.alloc w10 _ = Wx
  have bx' : Below w10.heap.size w10 Wx := by rw [← hWx]; exact (Below.refl _ _).alloc (Nat.le_refl _) _
  have qx : Blk Wx w10.heap.size (cells2 X Y) 32 := by rw [← hWx]; exact Blk.new w10 _ _
  have sx : Wx.heap.size = w10.heap.size + 1 := by rw [← hWx]; simp
  obtain ⟨TS, hTS⟩ : ∃ t, w10.heap.size = t := ⟨_, rfl⟩
  rw [hTS] at bx' qx sx hs10 hb510 HCV HLV10 HX10 HY10 ⊢
  have hrow := rows_ex2 (K := Wx.heap.size) qx (by omega)
  have HQX := Lib.hid qx
  have HLX := Lib.hid (HLV10.out.below bx' (Nat.le_refl _) (show TS ≤ Wx.heap.size by omega))
  have HCX := Lib.hid (HCV.out.below bx' (Nat.le_refl _) (show TS ≤ Wx.heap.size by omega))
  have HGX : Hid (∀ k, k < 12 → VlX T9 Wx (valsM nl k) (g k)) := Lib.hid fun k hk => (HG10.out k hk).below bx' (by omega) (Nat.le_refl _)
  have HQV := Lib.hid (q10.below bx' (by omega))
  have bX : Below B w Wx := b10.trans (bx'.mono (by omega))
  have HE : Hid (∀ i, i < 2 → ∃ e, Md e ∧ fits e = true ∧ fits (.mk 17 [] v0 [e]) = true ∧ (∀ t ∈ e.tests, Has ls (testOf t)) ∧ ExG Wx.heap.size Wx e (g2x X Y i)) := Lib.hid fun i hi => by
    rcases i with _ | _ | i
    · exact ⟨ea, hda, hfa.1, hfa.2, fun t ht => hHas ea (by simp) t ht, HX10.out.below bx' (Nat.le_refl _) (show TS ≤ Wx.heap.size by omega)⟩
    · exact ⟨eb, hdb, hfb.1, hfb.2, fun t ht => hHas eb (by simp) t ht, HY10.out.below bx' (Nat.le_refl _) (show TS ≤ Wx.heap.size by omega)⟩
    · omega
  have HHAS := Lib.hid hHas
  have HMM := Lib.hid (And.intro hLM hLF)
  clear hWx hTS bx' qx hrow HX10 HY10 HLV10 HCV HG10 q10 q9 hHas hLM hLF hda hdb hfa hfb qX qY c0 c1 c2 c3 c4 c5 c6 c7 c8 d0 d1 d2 d3 d4 d5 d6 d7 d8 b510
  have hBx : B ≤ Wx.heap.size := by omega
  go_loopw [57] (fun iv wr => ∃ i : Nat, i ≤ 2 ∧ iv = .int .i64 i ∧ Below Wx.heap.size Wx wr) (fun iv _ => 2 - (intOf iv).toNat)
  case atStart => exact ⟨0, Nat.zero_le _, rfl, Below.refl _ _⟩
  case round =>
    obtain ⟨i, hi2, rfl, hbr⟩ := hrel
    by_cases hlt : i < 2
    · obtain ⟨e, hmd, hf1, hf2, hhas, hex⟩ := HE.out i hlt
      obtain ⟨y, hy⟩ : ∃ y, g2x X Y i = y := ⟨_, rfl⟩
      have hxr := hbr.size
      have hrg : wr.rangeAt TS (i * 9) y.cells.toList := by
        have hq := HQX.out.below hbr HQX.out.lt
        have hc : ∀ i, i < 2 → ∀ j, j < 9 → wr.cell? ⟨TS, 0 + (i * 9 + j), none⟩ = some ((g2x X Y i).cell j) := by
          obtain ⟨b, o, cap, e1, _, _, _, hc⟩ := (rows_ex2 (K := wr.heap.size) hq hq.lt).pos (by omega)
          simp only [Value.slice.injEq, Option.some.injEq, Addr.mk.injEq, and_true, true_and] at e1
          obtain ⟨⟨rfl, rfl⟩, _⟩ := e1
          exact hc
        have := xv_range hc hlt
        rw [hy, Nat.zero_add] at this
        exact this
      rw [hy] at hex
      have H1C : Hid (∀ u ∈ y.cells, u.oneCell' = true) := Lib.hid (by simp [Value.oneCell'])
      obtain ⟨t, ht⟩ : ∃ t, trueG (valsM nl) e = t := ⟨_, rfl⟩
      have hok := valsM_ok nl
      have hho : holdsS e ls CS = (t, 0) := by rw [← HCS.out, ← ht]; exact holds_M hok (valsM_truth nl) HMM.out.1 HMM.out.2 hmd hhas hf1
      have hno : holdsS (.mk 17 [] v0 [e]) ls CS = (!t, 0) := by
        rw [← HCS.out, ← ht, ← no_true]
        exact holds_M hok (valsM_truth nl) HMM.out.1 HMM.out.2 (.no e hmd) (fun t ht => hhas t (no_tests e t ht)) hf2
      have hgo : ∀ s ∈ ls, ∀ c ∈ s.cuts, c.good = true := fun s hs c hc => (half_M (HMM.out.1.each s hs) c hc).2
      have hbig : ∀ s ∈ ls, s.cuts.length ≤ 2 ^ 38 := fun s hs => Nat.le_trans (okB_len (okB_M (HMM.out.1.each s hs) (HMM.out.2 s hs))) (by decide)
      have HGO := Lib.hid hgo
      have HBIG := Lib.hid hbig
      have HHO := Lib.hid hho
      have HNO := Lib.hid hno
      have HMD := Lib.hid hmd
      have HT := Lib.hid ht
      have HEX := Lib.hid hex
      clear hho hno hgo hbig hok hmd hf1 hf2 hhas ht hy hex
      go_upto_region 13 with (first
        | (refine wpList_load_mid rfl 32 (.tmp 59) rfl TS (i * 9) rfl y.cells.toList _ hrg Tryz.underlying32 rfl infoExN ?_)
        | (refine wpList_store_new rfl 32 (.tmp 15) (.tmp 60) rfl y.cells _ infoExN rfl H1C.out wr.heap.size rfl rfl rfl ?_))
      obtain ⟨S, hS⟩ : ∃ S, wr.heap.size = S := ⟨_, rfl⟩
      obtain ⟨W11, hW11⟩ : ∃ W, wr.alloc (.cells y.cells 32) = W := ⟨_, rfl⟩
      have b11 : Below S wr W11 := by rw [← hW11, ← hS]; exact (Below.refl _ _).alloc (Nat.le_refl _) _
      have q11 : Blk W11 S y.cells 32 := by rw [← hW11, ← hS]; exact Blk.new wr _ _
      have hq11 := q11.lt
      have HW11 := Lib.hid hW11
      dsimp only [Xv.cells] at HW11
      have HS := Lib.hid hS
      rw [hS] at hxr
      have bx11 : Below Wx.heap.size Wx W11 := hbr.trans (b11.mono hxr)
      have hh := gholds_any W11.heap.size e y ls (.slice la ln lc) CS (.slice ca cn cc) W11 (HEX.out.below bx11 (Nat.le_refl _) bx11.size) (md_good HMD.out) (HLX.out.below bx11 (Nat.le_refl _) bx11.size) (HCX.out.below bx11 (Nat.le_refl _) bx11.size) (Nat.le_refl _) HGO.out HBIG.out
      rw [HHO.out] at hh
      have HH := Lib.hid hh
      obtain ⟨f0, f1, f2, f3, f4, f5, f6, f7, f8⟩ := q11.nine
      simp only [HS.out]
      rw [HW11.out]
      clear hh hS hW11 HW11 HS hrg H1C hbr b11 HHO
      go_wp2_with fail
      refine HH.out.mono ?_
      rintro e1 w12 ⟨rfl, hb12⟩
      clear HH f0 f1 f2 f3 f4 f5 f6 f7 f8
      have bx12 : Below Wx.heap.size Wx w12 := bx11.trans (hb12.mono bx11.size)
      have q12 := q11.below hb12 q11.lt
      have hs12 := hb12.size
      obtain ⟨f0, f1, f2, f3, f4, f5, f6, f7, f8⟩ := q12.nine
      have r12 : w12.rangeAt T9 0 (cells72 g) := by have := (HQV.out.below bx12 HQV.out.lt).range; simpa using this
      have htr := gtrue_any nl g HMD.out w12.heap.size y w12 (fun k hk => (HGX.out k hk).below bx12 (by omega) (by omega)) (Nat.le_refl _) (HEX.out.below bx12 (Nat.le_refl _) bx12.size)
      rw [HT.out] at htr
      have HTR := Lib.hid htr
      clear htr hb12 bx11 q11
      go_upto_region 14 with fail
      iterate 14 go_step
      refine wpList_load_midW (by kernel_rfl) 71 (.tmp 11) rfl T9 0 rfl (cells72 g) _ r12 Tryz.underlying71 rfl HI72l.out ?_
      go_wp2_with fail
      refine HTR.out.mono ?_
      rintro e2 w13 ⟨rfl, hb13⟩
      clear HTR r12 f0 f1 f2 f3 f4 f5 f6 f7 f8
      have bx13 : Below Wx.heap.size Wx w13 := bx12.trans (hb13.mono bx12.size)
      have q13 := q12.below hb13 q12.lt
      have hs13 := hb13.size
      obtain ⟨f0, f1, f2, f3, f4, f5, f6, f7, f8⟩ := q13.nine
      have htt : (t != t) = false := by simp
      clear hb13 bx12 q12
      go_wp2_with fail
      generalize hW14 : World.alloc w13 _ = W14
      have b14 : Below w13.heap.size w13 W14 := by rw [← hW14]; exact (Below.refl _ _).alloc (Nat.le_refl _) _
      have q14 : Blk W14 w13.heap.size y.cells 32 := by rw [← hW14]; exact Blk.new w13 _ _
      have bx14 : Below Wx.heap.size Wx W14 := bx13.trans (b14.mono bx13.size)
      obtain ⟨A14, hA14⟩ : ∃ t, w13.heap.size = t := ⟨_, rfl⟩
      rw [hA14] at q14 ⊢
      have hq14 := q14.lt
      have hop := gop_any 17 ⟨some ⟨A14, 0, none⟩, 1, 1⟩ W14
      have HOP := Lib.hid hop
      clear hW14 hA14 hop f0 f1 f2 f3 f4 f5 f6 f7 f8 b14 bx13 q13
      refine HOP.out.mono ?_
      rintro e3 w15 ⟨rfl, hb15⟩
      have bx15 : Below Wx.heap.size Wx w15 := bx14.trans (hb15.mono bx14.size)
      have q15 := q14.below hb15 q14.lt
      have hh := gholds_any w15.heap.size (.mk 17 [] v0 [e]) (opX 17 ⟨some ⟨A14, 0, none⟩, 1, 1⟩) ls (.slice la ln lc) CS (.slice ca cn cc) w15 (exg_one q15 q15.lt (HEX.out.below bx15 (Nat.le_refl _) bx15.size) (by simp [maxLen])) (md_good (.no e HMD.out)) (HLX.out.below bx15 (Nat.le_refl _) bx15.size) (HCX.out.below bx15 (Nat.le_refl _) bx15.size) (Nat.le_refl _) HGO.out HBIG.out
      rw [HNO.out] at hh
      have HH := Lib.hid hh
      clear hh hb15 bx14 q14 q15 HOP
      go_wp2_with fail
      refine HH.out.mono ?_
      rintro e4 w16 ⟨rfl, hb16⟩
      have bx16 : Below Wx.heap.size Wx w16 := bx15.trans (hb16.mono bx15.size)
      have htn : ((!t) == t) = false := by cases t <;> rfl
      clear HH hb16 bx15 HEX HMD HT HNO HGO HBIG
      go_wp2_with fail
      exact ⟨⟨i + 1, by omega, by go_num, bx16⟩, by simp [intOf]; omega⟩
    · obtain rfl : i = 2 := by omega
      have bw := bX.trans (hbr.mono hBx)
      have haw := glawake_any wr
      clear hbr HLX HCX HGX HQV HE HMM HHAS HQX
      go_wp2_with fail
      refine haw.mono ?_
      rintro e wf ⟨rfl, hbf⟩
      have bf := bw.trans (hbf.mono (by have := bw.size; have := HB.out; omega))
      clear hbf
      go_wp2_with fail
      go_ret
      exact ⟨rfl, bf⟩
end Go.Proofs.YthooiobhlbnaoaaGreat
