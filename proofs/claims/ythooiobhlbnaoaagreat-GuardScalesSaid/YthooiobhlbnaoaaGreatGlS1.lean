/- GuardScales: the walk. No conditions beyond the readings of the arguments. -/
import Derived.Test.YthooiobhlbnaoaaGreatGlM17
import Derived.Test.YthooiobhlbnaoaaGreatGScaS
namespace Go.Proofs.YthooiobhlbnaoaaGreat
open Go.RowKit
set_option linter.unusedVariables false

set_option maxRecDepth 100000 in
theorem ksame_no (x y : Xv) (w : World) (ho : x.op = y.op) (hn : x.nm ≠ y.nm) : Calls Tryz.prog 37 #[x.agg, y.agg] w fun e w' => e = .returned (.bool false) ∧ Below w.heap.size w w' := by
  have hnm : (x.nm == y.nm) = false := by simpa using hn
  obtain ⟨W1, hW1⟩ : ∃ W1, (w.alloc (.cells x.cells 32)).alloc (.cells y.cells 32) = W1 := ⟨_, rfl⟩
  have b1 : Below w.heap.size w W1 := by rw [← hW1]; exact ((Below.refl _ _).alloc (Nat.le_refl _) _).alloc (by simp) _
  have q1 : Blk W1 w.heap.size x.cells 32 := by rw [← hW1]; exact (Blk.new w _ _).alloc _
  have q2 : Blk W1 (w.heap.size + 1) y.cells 32 := by
    rw [← hW1]
    have := Blk.new (w.alloc (.cells x.cells 32)) y.cells 32
    rwa [World.size_alloc] at this
  obtain ⟨B, hB⟩ : ∃ B, w.heap.size = B := ⟨_, rfl⟩
  have HB := Lib.hid hB
  have HW := Lib.hid hW1
  dsimp only [Xv.cells] at HW
  rw [hB] at b1 q1 q2 ⊢
  have c0 : W1.cell? ⟨B, 0, none⟩ = some (.int .u8 x.op) := q1.at rfl
  have c1 : W1.cell? ⟨B, 1, none⟩ = some (S x.nm) := q1.at rfl
  have d0 : W1.cell? ⟨B + 1, 0, none⟩ = some (.int .u8 y.op) := q2.at rfl
  have d1 : W1.cell? ⟨B + 1, 1, none⟩ = some (S y.nm) := q2.at rfl
  rw [← ho] at d0
  clear hB hW1 ho hn
  go_enter Tryz.func37, Tryz.ntmps37
  go_upto_region 1 with fail
  simp only [HB.out]
  rw [HW.out]
  go_wp2_with fail
  go_ret
  exact ⟨rfl, b1⟩
theorem sv_rangeX {w : World} {b o : Nat} {y : Sv} (h : w.rangeAt b o y.cells.toList) : w.rangeAt b o y.x.cells.toList := by
  intro j v hj
  have hj' : j < 9 := (List.getElem?_eq_some_iff.1 hj).1
  refine h j v ?_
  rw [← hj]
  have hj7 : j = 0 ∨ j = 1 ∨ j = 2 ∨ j = 3 ∨ j = 4 ∨ j = 5 ∨ j = 6 ∨ j = 7 ∨ j = 8 := by omega
  rcases hj7 with rfl | rfl | rfl | rfl | rfl | rfl | rfl | rfl | rfl <;> rfl
theorem range_below {w w' : World} {B b o : Nat} {cs : List Value} (hb : Below B w w') (h : b < B) (hr : w.rangeAt b o cs) : w'.rangeAt b o cs := fun j v hj => (hb.cell (p := ⟨b, o + j, none⟩) h).trans (hr j v hj)
abbrev cells4 (x y z u : Xv) : Array Value := #[.int .u8 x.op, S x.nm, .int .u8 x.kd, .bool x.b3, .slice x.s4.a x.s4.n x.s4.m, .bool x.b5, .slice x.s6.a x.s6.n x.s6.m, .int .i64 x.i7, .slice x.s8.a x.s8.n x.s8.m, .int .u8 y.op, S y.nm, .int .u8 y.kd, .bool y.b3, .slice y.s4.a y.s4.n y.s4.m, .bool y.b5, .slice y.s6.a y.s6.n y.s6.m, .int .i64 y.i7, .slice y.s8.a y.s8.n y.s8.m,
  .int .u8 z.op, S z.nm, .int .u8 z.kd, .bool z.b3, .slice z.s4.a z.s4.n z.s4.m, .bool z.b5, .slice z.s6.a z.s6.n z.s6.m, .int .i64 z.i7, .slice z.s8.a z.s8.n z.s8.m, .int .u8 u.op, S u.nm, .int .u8 u.kd, .bool u.b3, .slice u.s4.a u.s4.n u.s4.m, .bool u.b5, .slice u.s6.a u.s6.n u.s6.m, .int .i64 u.i7, .slice u.s8.a u.s8.n u.s8.m]
def g4x (x y z u : Xv) (i : Nat) : Xv := if i = 0 then x else if i = 1 then y else if i = 2 then z else u
theorem rows_ex4 {K b : Nat} {w : World} {x y z u : Xv} (hq : Blk w b (cells4 x y z u) 32) (hb : b < K) : RowsV 9 (fun i j => (g4x x y z u i).cell j) K w (.slice (some ⟨b, 0, none⟩) 4 4) 4 := by
  refine rows_ex hq hb _ (fun i hi j hj => ?_) (by simp [maxLen])
  rcases i with _ | _ | _ | _ | i
  · rcases j with _ | _ | _ | _ | _ | _ | _ | _ | _ | j <;> first | rfl | omega
  · rcases j with _ | _ | _ | _ | _ | _ | _ | _ | _ | j <;> first | rfl | omega
  · rcases j with _ | _ | _ | _ | _ | _ | _ | _ | _ | j <;> first | rfl | omega
  · rcases j with _ | _ | _ | _ | _ | _ | _ | _ | _ | j <;> first | rfl | omega
  · omega

set_option maxRecDepth 100000 in
set_option maxHeartbeats 40000000 in
theorem glscales_any (K : Nat) (m : List Nat) (mv : Value) (n : List Nat) (nv : Value) (nl : List Nat) (arr : Array Value) (w : World) (hm : U8s K w mv m) (hxm : ∀ y ∈ m, y < 256) (hn : U8s K w nv n) (hxn : ∀ y ∈ n, y < 256)
    (hl : nl.length = 12) (hx : ∀ y ∈ nl, y < 256) (harr : arr = (nl.map fun n : Nat => Value.int .u8 (n : Int)).toArray) (hK : K ≤ w.heap.size) :
    Calls Tryz.prog 7 #[mv, nv, .agg arr] w fun e w' => e = .returned (.bool true) ∧ Below w.heap.size w w' := by
  obtain ⟨ma, mc, rfl, hmc, hmm⟩ := id (RowsV.form hm)
  obtain ⟨na, nc, rfl, hnc, hnm⟩ := id (RowsV.form hn)
  unfold maxLen at hmm hnm
  obtain ⟨mk, hmk⟩ : ∃ k, min m.length 30 = k := ⟨_, rfl⟩
  obtain ⟨nk, hnk⟩ : ∃ k, min n.length 30 = k := ⟨_, rfl⟩
  have hm2 := hm.take mk (by omega) rfl
  have hn2 := hn.take nk (by omega) rfl
  obtain ⟨m2, hm2e⟩ : ∃ l, m.take mk = l := ⟨_, rfl⟩
  obtain ⟨n2, hn2e⟩ : ∃ l, n.take nk = l := ⟨_, rfl⟩
  have hxm2 : ∀ y ∈ m2, y < 256 := fun y hy => hxm y (List.mem_of_mem_take (hm2e ▸ hy))
  have hxn2 : ∀ y ∈ n2, y < 256 := fun y hy => hxn y (List.mem_of_mem_take (hn2e ▸ hy))
  have hml : m2.length ≤ 30 := by rw [← hm2e, List.length_take]; omega
  have hnl : n2.length ≤ 30 := by rw [← hn2e, List.length_take]; omega
  rw [hm2e] at hm2
  rw [hn2e] at hn2
  have hmim : (if (30 : Int) < (m.length : Int) then (30 : Int) else (m.length : Int)) = (mk : Int) := by split <;> omega
  have hmin : (if (30 : Int) < (n.length : Int) then (30 : Int) else (n.length : Int)) = (nk : Int) := by split <;> omega
  obtain ⟨ml, hmle⟩ : ∃ k, m.length = k := ⟨_, rfl⟩
  obtain ⟨nle, hnle⟩ : ∃ k, n.length = k := ⟨_, rfl⟩
  rw [hmle] at hmc hmk hmim ⊢
  rw [hnle] at hnc hnk hmin ⊢
  have hmkc : mk ≤ mc := by omega
  have hnkc : nk ≤ nc := by omega
  clear hm hn hm2e hn2e hxm hxn hmle hnle
  obtain ⟨W1, hW1⟩ : ∃ W1, w.alloc (.cells arr 69) = W1 := ⟨_, rfl⟩
  have b1 : Below w.heap.size w W1 := by rw [← hW1]; exact (Below.refl _ _).alloc (Nat.le_refl _) _
  have q1 : Blk W1 w.heap.size arr 69 := by rw [← hW1]; exact Blk.new w _ _
  have s1 : W1.heap.size = w.heap.size + 1 := by rw [← hW1]; simp
  obtain ⟨B, hB⟩ : ∃ B, w.heap.size = B := ⟨_, rfl⟩
  have HB := Lib.hid hB
  have HW := Lib.hid hW1
  rw [hB] at b1 q1 s1 hK ⊢
  have HM := Lib.hid (hm2.below b1 hK (Nat.le_refl K))
  have HN := Lib.hid (hn2.below b1 hK (Nat.le_refl K))
  have HQ1 := Lib.hid q1
  have HB1 := Lib.hid b1
  have S1 := Lib.hid s1
  have HMK := Lib.hid hmim
  have HMK2 : Hid (min (ml : Int) 30 = (mk : Int)) := Lib.hid (by omega)
  have HNK2 : Hid (min (nle : Int) 30 = (nk : Int)) := Lib.hid (by omega)
  have HNK := Lib.hid hmin
  have HARR := Lib.hid harr
  have HX := Lib.hid hx
  have HX0 := HX
  have HL := Lib.hid hl
  have HXM := Lib.hid hxm2
  have HXN := Lib.hid hxn2
  have HML := Lib.hid hml
  have HNL := Lib.hid hnl
  clear hB hW1 hm2 hn2 q1 b1 s1 harr hx hl hxm2 hxn2 hml hnl hmim hmin hmk hnk
  go_enter Tryz.func7, Tryz.ntmps7
  go_upto_region 1 with fail
  simp only [HB.out]
  rw [HW.out]
  clear HW
  refine region_WQ (fun W' => Below W1.heap.size W1 W') (by kernel_rfl) (by kernel_rfl) ⟨rfl, rfl, rfl, Nat.le_refl _, fun _ _ => rfl⟩ ?_
  refine WQ.take (.slice ma ml mc) (.inl ⟨by kernel_rfl, fun W' hS => by go_simp <;> exact hS⟩) ?_
  refine WQ.take (.slice ma ml mc) (.inl ⟨by kernel_rfl, fun W' hS => by go_simp <;> exact hS⟩) ?_
  refine WQ.take (.int .i64 ml) (.inl ⟨by kernel_rfl, fun W' hS => by go_simp <;> exact hS⟩) ?_
  refine WQ.take (.int .i64 mk) (.inl ⟨by kernel_rfl, fun W' hS => by have hmk := HMK.out; go_simp <;> first | exact hS | exact HMK2.out⟩) ?_
  refine WQ.take (.slice ma mk mc) (.inl ⟨by kernel_rfl, fun W' hS => by go_simp <;> exact hS⟩) ?_
  refine WQ.take (.slice na nle nc) (.inl ⟨by kernel_rfl, fun W' hS => by go_simp <;> exact hS⟩) ?_
  refine WQ.take (.slice na nle nc) (.inl ⟨by kernel_rfl, fun W' hS => by go_simp <;> exact hS⟩) ?_
  refine WQ.take (.int .i64 nle) (.inl ⟨by kernel_rfl, fun W' hS => by go_simp <;> exact hS⟩) ?_
  refine WQ.take (.int .i64 nk) (.inl ⟨by kernel_rfl, fun W' hS => by have hnk := HNK.out; go_simp <;> first | exact hS | exact HNK2.out⟩) ?_
  refine WQ.take (.slice na nk nc) (.inl ⟨by kernel_rfl, fun W' hS => by go_simp <;> exact hS⟩) ?_
  refine WQ.take (.slice ma mk mc) (.inl ⟨by kernel_rfl, fun W' hS => by go_simp <;> exact hS⟩) ?_
  refine WQ.take (.slice na nk nc) (.inl ⟨by kernel_rfl, fun W' hS => by go_simp <;> exact hS⟩) ?_
  refine WQ.nil ?_
  intro W2 hS2
  go_simp
  have b12 : Below W1.heap.size W1 W2 := hS2
  have b2 : Below B w W2 := HB1.out.trans (hS2.mono (by have := S1.out; omega))
  have hs2 := b2.size
  have hBw := HB.out
  have hma := gMade_any K m2 (.slice ma mk mc) W2 (HM.out.below b12 (by have := S1.out; omega) (Nat.le_refl _)) HXM.out (by omega) (by have := HML.out; omega)
  have HMA := Lib.hid hma
  have hfa := made_fits m2 HML.out
  have hfb := made_fits n2 HNL.out
  have hda := madeM_md 6 m2
  have hdb := madeM_md 6 n2
  obtain ⟨ea, hea⟩ : ∃ e, (madeM 6 m2).1 = e := ⟨_, rfl⟩
  obtain ⟨eb, heb⟩ : ∃ e, (madeM 6 n2).1 = e := ⟨_, rfl⟩
  rw [hea] at HMA hfa hda
  rw [heb] at hfb hdb
  have HEB := Lib.hid heb
  clear hma hS2 hea heb
  go_wp2_with fail
  refine HMA.out.mono ?_
  rintro e w3 ⟨X, rfl, hX, hb3⟩
  clear HMA
  have hs3 := hb3.size
  have b13 : Below W1.heap.size W1 w3 := b12.trans (hb3.mono b12.size)
  have b3 : Below B w w3 := b2.trans (hb3.mono (by omega))
  have hmb := gMade_any K n2 (.slice na nk nc) w3 (HN.out.below b13 (by have := S1.out; omega) (Nat.le_refl _)) HXN.out (by omega) (by have := HNL.out; omega)
  rw [HEB.out] at hmb
  have HMB := Lib.hid hmb
  have HXE := Lib.hid hX.now
  clear hmb hX hb3 HM HN HEB
  go_wp2_with fail
  refine HMB.out.mono ?_
  rintro e w4 ⟨Y, rfl, hY, hb4⟩
  clear HMB
  have hs4 := hb4.size
  have b14 : Below W1.heap.size W1 w4 := b13.trans (hb4.mono b13.size)
  have b4 : Below B w w4 := b3.trans (hb4.mono (by omega))
  have HXE4 := Lib.hid (HXE.out.below hb4 (Nat.le_refl _) hb4.size)
  have HYE4 := Lib.hid hY.now
  clear HXE hY hb4 b12 b13 b3 b2
  have hX1 : Hid (∀ v ∈ X.cells, v.oneCell' = true) := Lib.hid (by simp [Value.oneCell'])
  have hY1 : Hid (∀ v ∈ Y.cells, v.oneCell' = true) := Lib.hid (by simp [Value.oneCell'])
  go_upto_region 3 with (first
    | (refine wpList_store_new2 rfl 32 (.tmp 7) (.tmp 35) rfl X.cells _ _ infoExN rfl hX1.out w4.heap.size rfl rfl rfl ?_)
    | (refine wpList_store_new rfl 32 (.tmp 8) (.tmp 37) rfl Y.cells _ infoExN rfl hY1.out (w4.heap.size + 1) (by simp) rfl rfl ?_))
  obtain ⟨T, hT⟩ : ∃ T, w4.heap.size = T := ⟨_, rfl⟩
  obtain ⟨W5, hW5⟩ : ∃ W5, (w4.alloc (.cells X.cells 32)).alloc (.cells Y.cells 32) = W5 := ⟨_, rfl⟩
  have b5' : Below T w4 W5 := by rw [← hW5, ← hT]; exact ((Below.refl _ _).alloc (Nat.le_refl _) _).alloc (by simp) _
  have qX : Blk W5 T X.cells 32 := by rw [← hW5, ← hT]; exact (Blk.new w4 _ _).alloc _
  have qY : Blk W5 (T + 1) Y.cells 32 := by
    rw [← hW5, ← hT]
    have := Blk.new (w4.alloc (.cells X.cells 32)) Y.cells 32
    rwa [World.size_alloc] at this
  have s5 : W5.heap.size = T + 2 := by rw [← hW5, ← hT]; simp
  have HW5 := Lib.hid hW5
  dsimp only [Xv.cells] at HW5
  have HT := Lib.hid hT
  rw [hT] at HXE4 HYE4 hs4
  have HX5 := Lib.hid (HXE4.out.below b5' (Nat.le_refl _) (show T ≤ W5.heap.size by omega))
  have HY5 := Lib.hid (HYE4.out.below b5' (Nat.le_refl _) (show T ≤ W5.heap.size by omega))
  have b5 : Below B w W5 := b4.trans (b5'.mono (by omega))
  have b15 : Below W1.heap.size W1 W5 := b14.trans (b5'.mono (by have := b14.size; omega))
  obtain ⟨c0, c1, c2, c3, c4, c5, c6, c7, c8⟩ := qX.nine
  obtain ⟨d0, d1, d2, d3, d4, d5, d6, d7, d8⟩ := qY.nine
  simp only [HT.out]
  rw [HW5.out]
  have S5 := Lib.hid s5
  have HS4 := Lib.hid hs4
  have HS3 := Lib.hid hs3
  have HS2 := Lib.hid hs2
  have HBW := Lib.hid hBw
  clear hW5 hT HW5 HXE4 HYE4 b5' b4 b14 hX1 hY1 s5 hs4 hs3 hs2 hBw
  go_wp2_with fail
  generalize hW6 : World.alloc W5 _ = W6
  have b6' : Below W5.heap.size W5 W6 := by rw [← hW6]; exact (Below.refl _ _).alloc (Nat.le_refl _) _
  have q6 : Blk W6 W5.heap.size (cells2 X Y) 32 := by rw [← hW6]; exact Blk.new W5 _ _
  have hs6 := b6'.size
  have s5 := S5.out
  have hs4 := HS4.out
  have hs3 := HS3.out
  have hs2 := HS2.out
  have hBw := HBW.out
  have hX6 := HX5.out.below b6' (by omega) hs6
  have hY6 := HY5.out.below b6' (by omega) hs6
  obtain ⟨ls, hls, hLM, hLF, hHas⟩ := scales_M (es := [ea, eb]) (fun e he => by
    simp only [List.mem_cons, List.not_mem_nil, or_false] at he
    rcases he with rfl | rfl
    · exact hda
    · exact hdb) (fun e he => by
    simp only [List.mem_cons, List.not_mem_nil, or_false] at he
    rcases he with rfl | rfl
    · exact hfa.1
    · exact hfb.1)
  have hsc := scales_any W6.heap.size (.slice (some ⟨W5.heap.size, 0, none⟩) 2 2) [ea, eb] (g2x X Y) W6 (rows_ex2 q6 q6.lt) (fun i a ha => by
    rcases i with _ | _ | i
    · cases ha; exact hX6
    · cases ha; exact hY6
    · cases ha) (fun a ha => by
    simp only [List.mem_cons, List.not_mem_nil, or_false] at ha
    rcases ha with rfl | rfl
    · exact md_good hda
    · exact md_good hdb) (Nat.le_refl _)
  rw [hls] at hsc
  have HSC := Lib.hid hsc
  clear hW6 hsc c0 c1 c2 c3 c4 c5 c6 c7 c8 d0 d1 d2 d3 d4 d5 d6 d7 d8 hX6 hY6 q6
  refine HSC.out.mono ?_
  rintro e w7 ⟨lv, rfl, hlv, hb7⟩
  clear HSC
  have hs7 := hb7.size
  have b57 : Below W5.heap.size W5 w7 := b6'.trans (hb7.mono b6'.size)
  obtain ⟨la, lc, rfl, _, hlcm⟩ := id hlv.form
  obtain ⟨ln, hln⟩ : ∃ k, ls.length = k := ⟨_, rfl⟩
  have hln12 := hLM.len
  have hag := scales_again hda hdb hfa.1 hfb.1 hfb.2 hls hLM hHas
  have qX7 := qX.below b57 qX.lt
  have qY7 := qY.below b57 qY.lt
  have HX7 := Lib.hid (HX5.out.below b57 (Nat.le_refl _) b57.size)
  have HY7 := Lib.hid (HY5.out.below b57 (Nat.le_refl _) b57.size)
  have b7 : Below B w w7 := b5.trans (b57.mono (by omega))
  rw [hln] at hln12 ⊢
  have HLN := Lib.hid hln
  have HLV := Lib.hid hlv
  have HLS := Lib.hid hls
  have HAG := Lib.hid hag
  have HAR7 := Lib.hid (HQ1.out.below (b15.trans (b57.mono b15.size)) HQ1.out.lt)
  clear hln hlv hls hag hb7 b6' b57 b5 b15 HX5 HY5 qX qY
  go_upto_region 4 with fail
  refine region_plain (fun W' => Below w7.heap.size w7 W') [] (by kernel_rfl) ?_
  have qS : (fun W' => Below w7.heap.size w7 W') w7.drew := below_quiet (Below.refl _ _)
  refine wpAnyD_take (i := 0) (v := X.agg) rfl (by kernel_rfl) (by kernel_rfl) (by kernel_rfl) (by kernel_rfl) (by kernel_rfl) (fun _ _ _ h => h) (.inl ⟨by kernel_rfl, fun W' hS => by obtain ⟨c0, c1, c2, c3, c4, c5, c6, c7, c8⟩ := (qX7.below hS qX7.lt).nine; go_simp⟩) qS ?_
  refine wpAnyD_take (i := 1) (v := Y.agg) rfl (by kernel_rfl) (by kernel_rfl) (by kernel_rfl) (by kernel_rfl) (by kernel_rfl) (fun _ _ _ h => h) (.inl ⟨by kernel_rfl, fun W' hS => by obtain ⟨c0, c1, c2, c3, c4, c5, c6, c7, c8⟩ := (qY7.below hS qY7.lt).nine; go_simp⟩) qS ?_
  refine wpAnyD_take (i := 2) (v := X.agg) rfl (by kernel_rfl) (by kernel_rfl) (by kernel_rfl) (by kernel_rfl) (by kernel_rfl) (fun _ _ _ h => h) (.inl ⟨by kernel_rfl, fun W' hS => by obtain ⟨c0, c1, c2, c3, c4, c5, c6, c7, c8⟩ := (qX7.below hS qX7.lt).nine; go_simp⟩) qS ?_
  refine wpAnyD_take (i := 3) (v := Y.agg) rfl (by kernel_rfl) (by kernel_rfl) (by kernel_rfl) (by kernel_rfl) (by kernel_rfl) (fun _ _ _ h => h) (.inl ⟨by kernel_rfl, fun W' hS => by obtain ⟨c0, c1, c2, c3, c4, c5, c6, c7, c8⟩ := (qY7.below hS qY7.lt).nine; go_simp⟩) qS ?_
  obtain ⟨X0, hX0⟩ : ∃ X, w7.drew = X := ⟨_, rfl⟩
  rw [hX0] at qS ⊢
  have qS : Below w7.heap.size w7 X0 := qS
  clear hX0
  refine wpAnyD_one (i := 4) (by kernel_rfl) rfl (by kernel_rfl) ?_
  go_simp
  generalize hV1 : World.alloc X0 _ = V1
  have hb1 : Below X0.heap.size X0 V1 := by rw [← hV1]; exact (Below.refl _ _).alloc (Nat.le_refl _) _
  have q1 : Blk V1 X0.heap.size Y.cells 32 := by rw [← hV1]; exact Blk.new X0 _ _
  have qS1 : Below w7.heap.size w7 V1 := qS.trans (hb1.mono qS.size)
  obtain ⟨A1, hA1⟩ : ∃ t, X0.heap.size = t := ⟨_, rfl⟩
  rw [hA1] at q1 ⊢
  refine ⟨qS1, ?_⟩
  clear hV1 hA1 hb1 qS
  refine wpAnyD_one (i := 5) (by kernel_rfl) rfl (by kernel_rfl) ?_
  go_simp
  refine (gop_any 17 ⟨some ⟨A1, 0, none⟩, 1, 1⟩ V1).mono ?_
  rintro e V2 ⟨rfl, hb2⟩
  have qS2 : Below w7.heap.size w7 V2 := qS1.trans (hb2.mono qS1.size)
  have q2 := q1.below hb2 q1.lt
  refine ⟨qS2, ?_⟩
  clear hb2 q1 qS1
  refine wpAnyD_one (i := 6) (by kernel_rfl) rfl (by kernel_rfl) ?_
  go_simp
  generalize hV3 : World.alloc V2 _ = V3
  have hb3 : Below V2.heap.size V2 V3 := by rw [← hV3]; exact (Below.refl _ _).alloc (Nat.le_refl _) _
  have q3 : Blk V3 V2.heap.size (cells4 X Y X (opX 17 ⟨some ⟨A1, 0, none⟩, 1, 1⟩)) 32 := by rw [← hV3]; exact Blk.new V2 _ _
  have qS3 : Below w7.heap.size w7 V3 := qS2.trans (hb3.mono qS2.size)
  have q23 := q2.below hb3 q2.lt
  obtain ⟨A3, hA3⟩ : ∃ t, V2.heap.size = t := ⟨_, rfl⟩
  rw [hA3] at q3 ⊢
  have hx3 := HX7.out.below qS3 (Nat.le_refl _) qS3.size
  have hy3 := HY7.out.below qS3 (Nat.le_refl _) qS3.size
  have hn3 : ExG V3.heap.size V3 (.mk 17 [] v0 [eb]) (opX 17 ⟨some ⟨A1, 0, none⟩, 1, 1⟩) := exg_one q23 q23.lt hy3 (by simp [maxLen])
  have hsc := scales_any V3.heap.size (.slice (some ⟨A3, 0, none⟩) 4 4) [ea, eb, ea, .mk 17 [] v0 [eb]] (g4x X Y X (opX 17 ⟨some ⟨A1, 0, none⟩, 1, 1⟩)) V3 (rows_ex4 q3 q3.lt) (fun i a ha => by
    rcases i with _ | _ | _ | _ | i
    · cases ha; exact hx3
    · cases ha; exact hy3
    · cases ha; exact hx3
    · cases ha; exact hn3
    · cases ha) (fun a ha => by
    simp only [List.mem_cons, List.not_mem_nil, or_false] at ha
    rcases ha with rfl | rfl | rfl | rfl
    · exact md_good hda
    · exact md_good hdb
    · exact md_good hda
    · exact md_good (.no eb hdb)) (Nat.le_refl _)
  rw [HAG.out] at hsc
  have HSC := Lib.hid hsc
  refine ⟨qS3, ?_⟩
  clear hsc hV3 hA3 hb3 q2 q3 q23 hx3 hy3 hn3 qS2
  refine wpAnyD_one (i := 7) (by kernel_rfl) rfl (by kernel_rfl) ?_
  go_simp
  refine HSC.out.mono ?_
  rintro e V4 ⟨av, rfl, hav, hb4⟩
  have qS4 : Below w7.heap.size w7 V4 := qS3.trans (hb4.mono qS3.size)
  obtain ⟨aa, ac, rfl, _, _⟩ := id hav.form
  rw [HLN.out]
  refine ⟨qS4, ?_⟩
  clear HSC
  refine wpAnyD_take (i := 8) (v := .tuple #[.slice aa ln ac, .int .i64 0]) rfl (by kernel_rfl) (by kernel_rfl) (by kernel_rfl) (by kernel_rfl) (by kernel_rfl) (fun _ _ _ h => h) (.inl ⟨by kernel_rfl, fun W' hS => by go_simp⟩) qS4 ?_
  refine wpAnyD_take (i := 9) (v := .slice aa ln ac) rfl (by kernel_rfl) (by kernel_rfl) (by kernel_rfl) (by kernel_rfl) (by kernel_rfl) (fun _ _ _ h => h) (.inl ⟨by kernel_rfl, fun W' hS => by go_simp⟩) qS4 ?_
  refine wpAnyD_take (i := 10) (v := .int .i64 0) rfl (by kernel_rfl) (by kernel_rfl) (by kernel_rfl) (by kernel_rfl) (by kernel_rfl) (fun _ _ _ h => h) (.inl ⟨by kernel_rfl, fun W' hS => by go_simp⟩) qS4 ?_
  refine wpAnyD_take (i := 11) (v := .slice aa ln ac) rfl (by kernel_rfl) (by kernel_rfl) (by kernel_rfl) (by kernel_rfl) (by kernel_rfl) (fun _ _ _ h => h) (.inl ⟨by kernel_rfl, fun W' hS => by go_simp⟩) qS4 ?_
  refine wpAnyD_take (i := 12) (v := .int .i64 0) rfl (by kernel_rfl) (by kernel_rfl) (by kernel_rfl) (by kernel_rfl) (by kernel_rfl) (fun _ _ _ h => h) (.inl ⟨by kernel_rfl, fun W' hS => by go_simp⟩) qS4 ?_
  refine wpAnyD_done (by kernel_rfl) ?_ _
  have HAV := Lib.hid hav
  have HLV4 := Lib.hid (HLV.out.below qS4 (Nat.le_refl _) qS4.size)
  have HAR := Lib.hid (HAR7.out.below qS4 HAR7.out.lt)
  have HX4 := Lib.hid (HX7.out.below qS4 (Nat.le_refl _) qS4.size)
  have HY4 := Lib.hid (HY7.out.below qS4 (Nat.le_refl _) qS4.size)
  have HQX := Lib.hid (qX7.below qS4 qX7.lt)
  have HQY := Lib.hid (qY7.below qS4 qY7.lt)
  have b8 : Below B w V4 := b7.trans (qS4.mono (by omega))
  obtain ⟨gy, hrow, hsx⟩ := id HLV4.out
  obtain ⟨ga, hrowa, hsa⟩ := id HAV.out
  rw [HLN.out] at hrow hrowa hsx hsa
  have HROW := Lib.hid hrow
  have HROWA := Lib.hid hrowa
  have HSX := Lib.hid hsx
  have HSA := Lib.hid hsa
  have HMM := Lib.hid (And.intro hLM hLF)
  have HHAS := Lib.hid hHas
  have HMD := Lib.hid (And.intro hda hdb)
  have HFT := Lib.hid (And.intro hfa.1 hfb.1)
  have d12 : decide ((12 : Int) < (ln : Int)) = false := decide_eq_false (by omega)
  clear hrow hrowa hsx hsa hav hb4 qS4 qS3 HLV HX7 HY7 qX7 qY7 HAR7 b7 hLM hLF hHas hda hdb hfa hfb
  obtain ⟨M, hM⟩ : ∃ M, V4.heap.size = M := ⟨_, rfl⟩
  rw [hM] at HAV HLV4 HX4 HY4 HROW HROWA HSX HSA
  have hBM : B ≤ M := by have := b8.size; omega
  go_wp2_with fail
  have HM2 := Lib.hid hM
  have HCELLOK : Hid (∀ s ∈ ls, (∀ c ∈ s.cuts, c.good = true) ∧ s.cuts.length ≤ 2 ^ 38 ∧ s.okB = true ∧ 2 ≤ (cellsS s).length) := Lib.hid fun s hs => by
    have hok := okB_M (HMM.out.1.each s hs) (HMM.out.2 s hs)
    exact ⟨fun c hc => (half_M (HMM.out.1.each s hs) c hc).2, Nat.le_trans (okB_len hok) (by decide), hok, cells_two (HMM.out.1.each s hs) (HMM.out.2 s hs)⟩
  clear hM
  go_loopw [13, 76] (fun ov iv wr => ∃ (i : Nat) (cs : List Nat), i ≤ ln ∧ iv = .int .i64 i ∧ OwnN M wr ov cs ∧ cs.length = i ∧ Hid (∀ j, j < i → ∃ c, c ∈ cellsS (ls[j]?.getD default) ∧ cs[j]? = some c) ∧ Below M V4 wr ∧ M ≤ wr.heap.size) (fun _ iv _ => ln - (intOf iv).toNat)
  case atStart => exact ⟨0, [], Nat.zero_le _, rfl, OwnN.nil _ _, rfl, Lib.hid (fun j hj => absurd hj (by omega)), Below.refl _ _, by rw [HM2.out]; exact Nat.le_refl _⟩
  case round =>
    obtain ⟨i, cs, hi, rfl, hown, hcl, hcs, hbw, hbs⟩ := hrel
    obtain ⟨wo, rfl⟩ : ∃ wo : World, wo = wr := ⟨_, rfl⟩
    obtain ⟨oa, oc, rfl, _, _⟩ := id hown.form
    rw [hcl] at hown ⊢
    have HCL := Lib.hid hcl
    have HCS := hcs
    have HO := Lib.hid hown
    have HBW := Lib.hid hbw
    clear hcl hcs hown
    by_cases hlt : i < ln
    · obtain ⟨b, o, cap, he, _, _, hbK, hc⟩ := HROW.out.pos (by omega)
      simp only [Value.slice.injEq, true_and] at he
      obtain ⟨rfl, rfl⟩ := he
      obtain ⟨b', o', cap', he', _, _, hbK', hc'⟩ := HROWA.out.pos (by omega)
      simp only [Value.slice.injEq, true_and] at he'
      obtain ⟨rfl, rfl⟩ := he'
      have hli : i < ls.length := by rw [HLN.out]; exact hlt
      obtain ⟨s, hs⟩ : ∃ s, ls[i]?.getD default = s := ⟨_, rfl⟩
      have hsm : s ∈ ls := by rw [← hs, List.getElem?_eq_getElem hli, Option.getD_some]; exact List.getElem_mem hli
      have hx := HSX.out i hlt
      have hxa := HSA.out i hlt
      rw [hs] at hx hxa
      obtain ⟨hgo, hbig, hokb, htwo⟩ := HCELLOK.out s hsm
      have hrg := sv_range (g := gy) (cells_below hbw (by omega) hc) hlt
      have HRK : Hid (∀ k, k < ln → wo.rangeAt b (o + k * 11) (gy k).x.cells.toList) := Lib.hid fun k hk => sv_rangeX (sv_range (g := gy) (cells_below hbw (by omega) hc) hk)
      have hca : wo.cell? ⟨b', o' + i * 11 + 10, none⟩ = some (ga i).c.val := by
        have := (cells_below hbw (by omega) hc') i hlt 10 (by omega)
        rw [show o' + (i * 11 + 10) = o' + i * 11 + 10 by omega] at this
        exact this
      have HNM : Hid (∀ k, k < i → (gy k).x.op = (gy i).x.op ∧ (gy k).x.nm ≠ (gy i).x.nm) := Lib.hid fun k hk => by
        obtain ⟨n1, n2, n3⟩ := names_M HMM.out.1 hli hk
        obtain ⟨p1, p2, _⟩ := (HSX.out k (by omega)).e.open
        obtain ⟨q1, q2, _⟩ := (HSX.out i hlt).e.open
        exact ⟨by rw [p1, q1, n1, n2], by rw [p2, q2]; exact n3⟩
      obtain ⟨y, hy⟩ : ∃ y, gy i = y := ⟨_, rfl⟩
      rw [hy] at hx hrg HNM
      have HX := Lib.hid hx
      have HX' := HX0
      have hzc : ∃ za zm, (ga i).c.val = .slice za s.cuts.length zm := by
        obtain ⟨a1, m1, e1, _⟩ := hxa.cuts.form
        exact ⟨a1, m1, e1⟩
      have hyc : ∃ ya ym, y.c = ⟨ya, s.cuts.length, ym⟩ := by
        obtain ⟨a1, m1, e1, _⟩ := hx.cuts.form
        obtain ⟨⟨x1, x2, x3, x4, x5, x6, x7, x8, x9⟩, k, ⟨ca, cn, cm⟩⟩ := y
        simp only [Sl.val, Value.slice.injEq] at e1
        obtain ⟨rfl, rfl, rfl⟩ := e1
        exact ⟨_, _, rfl⟩
      obtain ⟨za, zm, hzc⟩ := hzc
      obtain ⟨ya, ym, hyc⟩ := hyc
      rw [hzc] at hca
      obtain ⟨cn, hcn⟩ : ∃ k, s.cuts.length = k := ⟨_, rfl⟩
      rw [hcn] at hca hyc
      obtain ⟨yx, ykd, yc⟩ := y
      dsimp only at hyc
      subst hyc
      have H1C : Hid (∀ u ∈ (⟨yx, ykd, ⟨ya, cn, ym⟩⟩ : Sv).cells, u.oneCell' = true) := Lib.hid (by simp [Value.oneCell'])
      have HCA := Lib.hid hca
      have HGO := Lib.hid hgo
      have HBIG := Lib.hid hbig
      have HOKB := Lib.hid hokb
      have HTWO := Lib.hid htwo
      have HS := Lib.hid hs
      clear hx hxa hgo hbig hokb htwo hs hy hca hcn hzc hsm hc hc' hbw
      go_upto_region 11 with (first
        | (refine wpList_load_mid rfl 48 (.tmp 79) rfl b (o + i * 11) rfl (⟨yx, ykd, ⟨ya, cn, ym⟩⟩ : Sv).cells.toList _ hrg Tryz.underlying48 rfl infoScaleN ?_)
        | (refine wpList_store_new rfl 48 (.tmp 15) (.tmp 80) rfl (⟨yx, ykd, ⟨ya, cn, ym⟩⟩ : Sv).cells _ infoScaleN rfl H1C.out wo.heap.size rfl rfl rfl ?_))
      obtain ⟨T12, hT12⟩ : ∃ T, wo.heap.size = T := ⟨_, rfl⟩
      obtain ⟨W12, hW12⟩ : ∃ W, wo.alloc (.cells (⟨yx, ykd, ⟨ya, cn, ym⟩⟩ : Sv).cells 48) = W := ⟨_, rfl⟩
      have b12 : Below T12 wo W12 := by rw [← hW12, ← hT12]; exact (Below.refl _ _).alloc (Nat.le_refl _) _
      have q12 : Blk W12 T12 (⟨yx, ykd, ⟨ya, cn, ym⟩⟩ : Sv).cells 48 := by rw [← hW12, ← hT12]; exact Blk.new wo _ _
      have s12 : W12.heap.size = T12 + 1 := by rw [← hW12, ← hT12]; simp
      have HW12 := Lib.hid hW12
      have HT12 := Lib.hid hT12
      rw [hT12] at hbs
      have HO12 := Lib.hid (HO.out.old b12 (by omega))
      have HRK12 : Hid (∀ k, k < ln → W12.rangeAt b (o + k * 11) (gy k).x.cells.toList) := Lib.hid fun k hk => range_below b12 (by omega) (HRK.out k hk)
      have HCA12 := Lib.hid ((b12.cell (p := ⟨b', o' + i * 11 + 10, none⟩) (by show b' < T12; omega)).trans HCA.out)
      have HBW12 := Lib.hid (HBW.out.trans (b12.mono hbs))
      have HQ12 := Lib.hid q12
      have S12 := Lib.hid s12
      rw [HT12.out]
      rw [HW12.out]
      clear hT12 hW12 HW12 HT12 b12 q12 hrg H1C HO HRK HCA HBW s12
      go_wp2_with fail
      go_loopw [82] (fun kv wr => ∃ k : Nat, k ≤ i ∧ kv = .int .i64 k ∧ Below W12.heap.size W12 wr) (fun kv _ => i - (intOf kv).toNat)
      case atStart => exact ⟨0, Nat.zero_le _, rfl, Below.refl _ _⟩
      case round =>
        obtain ⟨k, hk, rfl, hbk⟩ := hrel
        obtain ⟨wk, rfl⟩ : ∃ wk : World, wk = wr := ⟨_, rfl⟩
        have hsk := hbk.size
        by_cases hki : k < i
        · have HR1 : Hid (∀ W', Below wk.heap.size wk W' → W'.rangeAt b (o + k * 11) (gy k).x.cells.toList) := Lib.hid fun W' h => range_below (hbk.trans (h.mono hbk.size)) (by have := S12.out; omega) (HRK12.out k (by omega))
          have HR2 : Hid (∀ W', Below wk.heap.size wk W' → W'.rangeAt T12 0 yx.cells.toList) := Lib.hid fun W' h => by
            have := sv_rangeX (y := ⟨yx, ykd, ⟨ya, cn, ym⟩⟩) (HQ12.out.below (hbk.trans (h.mono hbk.size)) HQ12.out.lt).range
            exact this
          have HSAME : Hid (∀ W', Calls Tryz.prog 37 #[(gy k).x.agg, yx.agg] W' fun e w' => e = .returned (.bool false) ∧ Below W'.heap.size W' w') := Lib.hid fun W' => ksame_no _ _ W' (HNM.out k hki).1 (HNM.out k hki).2
          have HBK := Lib.hid hbk
          have hkl : k < ln := by omega
          clear hbk
          go_upto_region 14 with fail
          refine region_WQ (fun W' => Below wk.heap.size wk W') (by kernel_rfl) (by kernel_rfl) ⟨rfl, rfl, rfl, Nat.le_refl _, fun _ _ => rfl⟩ ?_
          refine WQ.take (.slice (some ⟨b, o, none⟩) ln lc) (.inl ⟨by kernel_rfl, fun W' hS => by go_simp <;> exact hS⟩) ?_
          refine WQ.take (.int .i64 k) (.inl ⟨by kernel_rfl, fun W' hS => by go_simp <;> exact hS⟩) ?_
          refine WQ.take (.pointer (some ⟨b, o + k * 11, none⟩)) (.inl ⟨by kernel_rfl, fun W' hS => by go_simp <;> exact hS⟩) ?_
          refine WQ.take (.pointer (some ⟨b, o + k * 11, none⟩)) (.inl ⟨by kernel_rfl, fun W' hS => by go_simp <;> exact hS⟩) ?_
          refine WQ.take ((gy k).x.agg) (yieldsIn_of_if (yieldsIf_load_mid (by kernel_rfl) 32 (.tmp 88) rfl b (o + k * 11) (by rfl) (gy k).x.cells.toList _ (fun W' hS => HR1.out W' hS) Tryz.underlying32 rfl infoExN)) ?_
          refine WQ.take (.pointer (some ⟨T12, 0, none⟩)) (.inl ⟨by kernel_rfl, fun W' hS => by go_simp <;> exact hS⟩) ?_
          refine WQ.take (yx.agg) (yieldsIn_of_if (yieldsIf_load_mid (by kernel_rfl) 32 (.tmp 90) rfl T12 0 (by rfl) yx.cells.toList _ (fun W' hS => HR2.out W' hS) Tryz.underlying32 rfl infoExN)) ?_
          refine WQ.take (.bool false) (.inl ⟨by kernel_rfl, fun W' hS => by go_simp <;> exact (HSAME.out W').mono fun e W'' ⟨h1, h2⟩ => ⟨h1, hS.trans (h2.mono hS.size)⟩⟩) ?_
          refine WQ.take (.bool false) (.inl ⟨by kernel_rfl, fun W' hS => by go_simp <;> exact hS⟩) ?_
          refine WQ.take undef (.inr ⟨by kernel_rfl, rfl⟩) ?_
          refine WQ.take undef (.inr ⟨by kernel_rfl, rfl⟩) ?_
          refine WQ.take undef (.inr ⟨by kernel_rfl, rfl⟩) ?_
          refine WQ.take undef (.inr ⟨by kernel_rfl, rfl⟩) ?_
          refine WQ.take undef (.inr ⟨by kernel_rfl, rfl⟩) ?_
          refine WQ.take undef (.inr ⟨by kernel_rfl, rfl⟩) ?_
          refine WQ.take undef (.inr ⟨by kernel_rfl, rfl⟩) ?_
          refine WQ.take undef (.inr ⟨by kernel_rfl, rfl⟩) ?_
          refine WQ.take (.bool false) (.inl ⟨by kernel_rfl, fun W' hS => by go_simp <;> exact hS⟩) ?_
          refine WQ.nil ?_
          intro W9 hS9
          have b9 := HBK.out.trans (hS9.mono HBK.out.size)
          clear hS9 HR1 HR2 HSAME HBK
          go_simp
          go_upto_region 16 with fail
          go_wp2_with fail
          exact ⟨⟨k + 1, by omega, by go_num, b9⟩, by simp [intOf]; omega⟩
        · obtain rfl : i = k := by omega
          have hvx := HX.out.below (HBW12.out.trans (hbk.mono (by have := S12.out; omega))) (Nat.le_refl _) (by have := S12.out; omega : M ≤ wk.heap.size)
          have hce := gcells_any wk.heap.size s ⟨yx, ykd, ⟨ya, cn, ym⟩⟩ wk hvx (Nat.le_refl _) HGO.out HBIG.out
          obtain ⟨pl, hpl⟩ : ∃ l, cellsS s = l := ⟨_, rfl⟩
          have htwo := HTWO.out
          rw [hpl] at hce htwo
          have HPL := Lib.hid hpl
          have HCE := Lib.hid hce
          have HVX := Lib.hid hvx
          have HBK := Lib.hid hbk
          have hr17 : wk.rangeAt T12 0 (⟨yx, ykd, ⟨ya, cn, ym⟩⟩ : Sv).cells.toList := (HQ12.out.below hbk HQ12.out.lt).range
          clear hce hpl hvx hbk
          go_upto_region 17 with fail
          go_wp2_with (refine wpList_load_mid rfl 48 (.tmp 15) rfl T12 0 rfl (⟨yx, ykd, ⟨ya, cn, ym⟩⟩ : Sv).cells.toList _ hr17 Tryz.underlying48 rfl infoScaleN ?_)
          refine HCE.out.mono ?_
          rintro e w13 ⟨pv, rfl, hpv, hb13⟩
          clear HCE hr17
          have hs13 := hb13.size
          obtain ⟨pb, po, pc, rfl, _, hpcm, hpb, hpcell⟩ := hpv.nats.pos (by omega)
          obtain ⟨pn, hpn⟩ : ∃ n, pl.length = n := ⟨_, rfl⟩
          rw [hpn] at htwo hpcell ⊢
          have HPN := Lib.hid hpn
          have hb1213 : Below W12.heap.size W12 w13 := HBK.out.trans (hb13.mono hsk)
          have HQ13 := Lib.hid (HQ12.out.below hb1213 HQ12.out.lt)
          have HCA13 : Hid (∀ W', Below w13.heap.size w13 W' → W'.cell? ⟨b', o' + i * 11 + 10, none⟩ = some (.slice za cn zm)) := Lib.hid fun W' h => ((hb1213.trans (h.mono hb1213.size)).cell (p := ⟨b', o' + i * 11 + 10, none⟩) (by have := S12.out; show b' < _; omega)).trans HCA12.out
          have HR13 : Hid (∀ W', Below w13.heap.size w13 W' → W'.rangeAt T12 0 (⟨yx, ykd, ⟨ya, cn, ym⟩⟩ : Sv).cells.toList) := Lib.hid fun W' h => (HQ13.out.below h HQ13.out.lt).range
          have HY13 : Hid (∀ W', Below w13.heap.size w13 W' → W'.cell? ⟨T12, 10, none⟩ = some (.slice ya cn ym)) := Lib.hid fun W' h => (HQ13.out.below h HQ13.out.lt).at rfl
          have HVAL : Hid (∀ W', Below w13.heap.size w13 W' → Calls Tryz.prog 22 #[(⟨yx, ykd, ⟨ya, cn, ym⟩⟩ : Sv).agg] W' fun e w' => e = .returned (.bool true) ∧ Below W'.heap.size W' w') := Lib.hid fun W' h => by
            have := gvalid_any w13.heap.size s ⟨yx, ykd, ⟨ya, cn, ym⟩⟩ W' (HVX.out.below (hb13.trans (h.mono hs13)) (Nat.le_refl _) hs13) h.size HGO.out HBIG.out
            rwa [HOKB.out] at this
          have HO13 := Lib.hid (HO12.out.old hb1213 (Nat.le_refl _))
          have HBW13 := Lib.hid (HBW12.out.trans (hb1213.mono (by have := S12.out; omega)))
          have HPC := Lib.hid hpcell
          have d2 : decide ((pn : Int) < 2) = false := decide_eq_false (by omega)
          have hcnn : (cn != cn) = false := by simp
          clear hpn hb13 hpv hb1213 HQ12 HO12 HBW12 HCA12 HVX HX hpcell HRK12 HNM HBK
          go_upto_region 18 with fail
          refine region_WQ (fun W' => Below w13.heap.size w13 W') (by kernel_rfl) (by kernel_rfl) ⟨rfl, rfl, rfl, Nat.le_refl _, fun _ _ => rfl⟩ ?_
          refine WQ.take ((⟨yx, ykd, ⟨ya, cn, ym⟩⟩ : Sv).agg) (yieldsIn_of_if (yieldsIf_load_mid (by kernel_rfl) 48 (.tmp 15) rfl T12 0 (by rfl) (⟨yx, ykd, ⟨ya, cn, ym⟩⟩ : Sv).cells.toList _ (fun W' hS => HR13.out W' hS) Tryz.underlying48 rfl infoScaleN)) ?_
          refine WQ.take (.bool true) (.inl ⟨by kernel_rfl, fun W' hS => by go_simp <;> exact (HVAL.out W' hS).mono fun e W'' ⟨h1, h2⟩ => ⟨h1, hS.trans (h2.mono hS.size)⟩⟩) ?_
          refine WQ.take (.bool false) (.inl ⟨by kernel_rfl, fun W' hS => by go_simp <;> exact hS⟩) ?_
          refine WQ.take (.bool false) (.inl ⟨by kernel_rfl, fun W' hS => by go_simp <;> exact hS⟩) ?_
          refine WQ.take (.slice (some ⟨pb, po, none⟩) pn pc) (.inl ⟨by kernel_rfl, fun W' hS => by go_simp <;> exact hS⟩) ?_
          refine WQ.take (.int .i64 pn) (.inl ⟨by kernel_rfl, fun W' hS => by go_simp <;> exact hS⟩) ?_
          refine WQ.take (.bool false) (.inl ⟨by kernel_rfl, fun W' hS => by go_simp <;> exact hS⟩) ?_
          refine WQ.take (.bool false) (.inl ⟨by kernel_rfl, fun W' hS => by go_simp <;> exact hS⟩) ?_
          refine WQ.take (.bool false) (.inl ⟨by kernel_rfl, fun W' hS => by go_simp <;> exact hS⟩) ?_
          refine WQ.take (Value.slice (some ⟨b', o', none⟩) ln ac) (.inl ⟨by kernel_rfl, fun W' hS => by go_simp <;> exact hS⟩) ?_
          refine WQ.take (.int .i64 i) (.inl ⟨by kernel_rfl, fun W' hS => by go_simp <;> exact hS⟩) ?_
          refine WQ.take (.pointer (some ⟨b', o' + i * 11, none⟩)) (.inl ⟨by kernel_rfl, fun W' hS => by go_simp <;> exact hS⟩) ?_
          refine WQ.take (.pointer (some ⟨b', o' + i * 11 + 10, none⟩)) (.inl ⟨by kernel_rfl, fun W' hS => by go_simp <;> exact hS⟩) ?_
          refine WQ.take (.slice za cn zm) (.inl ⟨by kernel_rfl, fun W' hS => by have u := HCA13.out W' hS; go_simp <;> exact hS⟩) ?_
          refine WQ.take (.int .i64 cn) (.inl ⟨by kernel_rfl, fun W' hS => by go_simp <;> exact hS⟩) ?_
          refine WQ.take (.pointer (some ⟨T12, 10, none⟩)) (.inl ⟨by kernel_rfl, fun W' hS => by go_simp <;> exact hS⟩) ?_
          refine WQ.take (.slice ya cn ym) (.inl ⟨by kernel_rfl, fun W' hS => by have u := HY13.out W' hS; go_simp <;> exact hS⟩) ?_
          refine WQ.take (.int .i64 cn) (.inl ⟨by kernel_rfl, fun W' hS => by go_simp <;> exact hS⟩) ?_
          refine WQ.take (.bool false) (.inl ⟨by kernel_rfl, fun W' hS => by go_simp <;> exact hS⟩) ?_
          refine WQ.take (.bool false) (.inl ⟨by kernel_rfl, fun W' hS => by go_simp <;> exact hS⟩) ?_
          refine WQ.nil ?_
          intro w14 hS14
          have hs14 := hS14.size
          have HO14 := Lib.hid (HO13.out.old hS14 (Nat.le_refl _))
          have HBW14 := Lib.hid (HBW13.out.trans (hS14.mono (by have := S12.out; omega)))
          obtain ⟨r, hr⟩ : ∃ r, (nl[i]?.getD 0) % pn = r := ⟨_, rfl⟩
          obtain ⟨q, hq⟩ : ∃ q, nl[i]?.getD 0 = q := ⟨_, rfl⟩
          have hi12 : i < 12 := by omega
          have hql : nl[i]? = some q := by rw [← hq, List.getElem?_eq_getElem (by rw [HL.out]; exact hi12)]; rfl
          have hq256 : q < 256 := HX'.out q (List.mem_of_getElem? hql)
          have hrp : r < pn := by rw [← hr]; exact Nat.mod_lt _ (by omega)
          have hrq : r ≤ q := by rw [← hr, hq]; exact Nat.mod_le _ _
          have hn0 : w14.cell? ⟨B, i, none⟩ = some (.int .u8 (q : Int)) := (HAR.out.below (HBW14.out) (by rw [← HM2.out]; exact HAR.out.lt)).at (by rw [HARR.out, List.getElem?_toArray, List.getElem?_map, hql]; rfl)
          have hmod : (q : Int).tmod (pn : Int) = (r : Int) := by rw [← hr, hq, Int.tmod_eq_emod_of_nonneg (by omega)]; rfl
          have hmod2 : (q : Int) % (pn : Int) = (r : Int) := by rw [← hr, hq]; rfl
          have hpn0 : ((pn : Int) == 0) = false := by simp; omega
          have hn1 : w14.cell? ⟨pb, po + r, none⟩ = some (Z (pl[r]?.getD 0)) := by
            have h1 := HPC.out r hrp
            exact (hS14.cell (p := ⟨pb, po + r, none⟩) hpb).trans h1
          obtain ⟨c, hc⟩ : ∃ c, pl[r]?.getD 0 = c := ⟨_, rfl⟩
          rw [hc] at hn1
          have hcm : c ∈ cellsS s := by rw [HPL.out, ← hc, List.getElem?_eq_getElem (by rw [HPN.out]; exact hrp), Option.getD_some]; exact List.getElem_mem _
          have HCM := Lib.hid hcm
          have hw64 : IntKind.i64.wrap (q : Int) = q := IntWalk.i64_in _ (by omega)
          have hwr : IntKind.i64.wrap (r : Int) = r := IntWalk.i64_in _ (by omega)
          have hM14 : M ≤ w14.heap.size := by have := S12.out; omega
          have hlen1 : Hid (cs.length + 1 ≤ 2 ^ 40) := Lib.hid (by rw [HCL.out]; omega)
          have HO14' : Hid (OwnN M w14 (.slice oa i oc) cs) := HO14
          clear hS14 HQ13 HCA13 HR13 HY13 HVAL HO13 HBW13 hr hq hql hc hcm HPC hpb hpcm
          go_simp
          go_upto_region 20 with fail
          go_wp2_with (at_builtin; refine wpList_append_N rfl (.tmp 126) (.tmp 137) rfl rfl rfl (HO14'.out.old ((Below.refl _ _).alloc (Nat.le_refl _) _) (Nat.le_refl _)) ((Blk.new w14 #[Z c] _).at rfl) hlen1.out (by simp; omega) ?_; intro g1 cap1 w6 hown6 hg6 hat6)
          have hb6 : Below M w14 w6 := ((Below.refl _ _).alloc (by omega) _).trans (below_grown hg6 (fun r e => (ownsRow_cells HO14'.out e).1) (by simp; omega))
          have hs6 := hb6.size
          have hcs' : Hid (∀ j, j < i + 1 → ∃ c', c' ∈ cellsS (ls[j]?.getD default) ∧ (cs ++ [c])[j]? = some c') := Lib.hid fun j hj => by
            have hl := HCL.out
            rcases Nat.lt_or_eq_of_le (Nat.le_of_lt_succ hj) with h | h
            · obtain ⟨c', h1, h2⟩ := HCS.out j h
              exact ⟨c', h1, by rw [List.getElem?_append_left (by omega)]; exact h2⟩
            · subst h
              exact ⟨c, by rw [HS.out]; exact HCM.out, by rw [List.getElem?_append_right (by omega), hl, Nat.sub_self]; rfl⟩
          have hlen' : (cs ++ [c]).length = i + 1 := by rw [List.length_append, HCL.out]; rfl
          have bw6 := HBW14.out.trans (hb6.mono (Nat.le_refl _))
          first
            | exact ⟨⟨i + 1, cs ++ [c], by omega, by go_num, hown6, hlen', hcs', bw6, by omega⟩, by simp [intOf]; omega⟩
            | exact ⟨⟨_, _, .int .i64 ((i + 1 : Nat) : Int), ⟨i + 1, cs ++ [c], by omega, rfl, hown6, hlen', hcs', bw6, by omega⟩, rfl, rfl, rfl⟩, by simp [intOf]; omega⟩
            | (refine ⟨⟨i + 1, cs ++ [c], by omega, by go_num, ?_, hlen', hcs', bw6, by omega⟩, by simp [intOf]; omega⟩; have := hown6; rwa [HCL.out] at this)
    · obtain rfl : i = ln := by omega
      have hmi := HO.out.nats
      obtain ⟨CI, hCI⟩ : ∃ l : List Int, cs.map (fun c : Nat => (c : Int)) = l := ⟨_, rfl⟩
      have hcil : CI.length = i := by rw [← hCI, List.length_map]; exact HCL.out
      have hci : IntsX wo.heap.size wo (.slice oa i oc) CI := by
        have hl : cs.length = CI.length := by rw [hcil]; exact HCL.out
        have h2 : RowsV 1 (fun i _ => Z (cs[i]?.getD 0)) wo.heap.size wo (.slice oa i oc) CI.length := hl ▸ hmi
        refine h2.congr fun k hk j _ => ?_
        rw [← hCI, List.getElem?_map, List.getElem?_eq_getElem (by omega : k < cs.length)]
        rfl
      have hcells : ∀ k, k < ls.length → ∃ c : Nat, c ∈ cellsS (ls[k]?.getD default) ∧ CI[k]? = some (c : Int) := fun k hk => by
        obtain ⟨c, h1, h2⟩ := HCS.out k (by rw [← HLN.out]; exact hk)
        exact ⟨c, h1, by rw [← hCI, List.getElem?_map, h2]; rfl⟩
      have hlen : CI.length = ls.length := by rw [hcil, HLN.out]
      have ha := holds_ok HMM.out.1 HMM.out.2 hlen hcells HMD.out.1 (fun t ht => HHAS.out ea (by simp) t ht) HFT.out.1
      have hb := holds_ok HMM.out.1 HMM.out.2 hlen hcells HMD.out.2 (fun t ht => HHAS.out eb (by simp) t ht) HFT.out.2
      obtain ⟨ra, hra⟩ : ∃ r, (holdG ls CI ea).1 = r := ⟨_, rfl⟩
      obtain ⟨rb, hrb⟩ : ∃ r, (holdG ls CI eb).1 = r := ⟨_, rfl⟩
      rw [hra] at ha
      rw [hrb] at hb
      have hgood : ∀ s ∈ ls, ∀ c ∈ s.cuts, c.good = true := fun s hs => (HCELLOK.out s hs).1
      have hbig : ∀ s ∈ ls, s.cuts.length ≤ 2 ^ 38 := fun s hs => (HCELLOK.out s hs).2.1
      have HGD := Lib.hid hgood
      have HBG := Lib.hid hbig
      have HHA := Lib.hid ha
      have HHB := Lib.hid hb
      have HCI := Lib.hid hci
      have bw : Below B w wo := b8.trans (HBW.out.mono (by omega))
      have hMs := HBW.out.size
      have HM3 := HM2.out
      have h1 : Hid (∀ W, Below wo.heap.size wo W → Calls Tryz.prog 28 #[X.agg, .slice la i lc, .slice oa i oc] W fun en w' => en = .returned (.tuple #[.bool ra, .int .i64 0]) ∧ Below W.heap.size W w') := Lib.hid fun W hW => by
        have hMW := HBW.out.trans (hW.mono hbs)
        have hKW : M ≤ W.heap.size := by have := hW.size; omega
        have hl1 := HLV4.out
        have hl2 := HAV.out
        rw [HLN.out] at hl1 hl2
        have := gholds_any W.heap.size ea X ls (.slice la i lc) CI (.slice oa i oc) W (HX4.out.below hMW (Nat.le_refl _) hKW) (md_good HMD.out.1) (hl1.below hMW (Nat.le_refl _) hKW) (HCI.out.below hW (Nat.le_refl _) hW.size) (Nat.le_refl _) HGD.out HBG.out
        rwa [HHA.out] at this
      have h2 : Hid (∀ W, Below wo.heap.size wo W → Calls Tryz.prog 28 #[X.agg, .slice aa i ac, .slice oa i oc] W fun en w' => en = .returned (.tuple #[.bool ra, .int .i64 0]) ∧ Below W.heap.size W w') := Lib.hid fun W hW => by
        have hMW := HBW.out.trans (hW.mono hbs)
        have hKW : M ≤ W.heap.size := by have := hW.size; omega
        have hl1 := HLV4.out
        have hl2 := HAV.out
        rw [HLN.out] at hl1 hl2
        have := gholds_any W.heap.size ea X ls (.slice aa i ac) CI (.slice oa i oc) W (HX4.out.below hMW (Nat.le_refl _) hKW) (md_good HMD.out.1) (hl2.below hMW (Nat.le_refl _) hKW) (HCI.out.below hW (Nat.le_refl _) hW.size) (Nat.le_refl _) HGD.out HBG.out
        rwa [HHA.out] at this
      have h3 : Hid (∀ W, Below wo.heap.size wo W → Calls Tryz.prog 28 #[Y.agg, .slice la i lc, .slice oa i oc] W fun en w' => en = .returned (.tuple #[.bool rb, .int .i64 0]) ∧ Below W.heap.size W w') := Lib.hid fun W hW => by
        have hMW := HBW.out.trans (hW.mono hbs)
        have hKW : M ≤ W.heap.size := by have := hW.size; omega
        have hl1 := HLV4.out
        have hl2 := HAV.out
        rw [HLN.out] at hl1 hl2
        have := gholds_any W.heap.size eb Y ls (.slice la i lc) CI (.slice oa i oc) W (HY4.out.below hMW (Nat.le_refl _) hKW) (md_good HMD.out.2) (hl1.below hMW (Nat.le_refl _) hKW) (HCI.out.below hW (Nat.le_refl _) hW.size) (Nat.le_refl _) HGD.out HBG.out
        rwa [HHB.out] at this
      have HQXo := Lib.hid (HQX.out.below HBW.out (by rw [← HM3]; exact HQX.out.lt))
      have HQYo := Lib.hid (HQY.out.below HBW.out (by rw [← HM3]; exact HQY.out.lt))
      obtain ⟨c0, c1, c2, c3, c4, c5, c6, c7, c8⟩ := HQXo.out.nine
      have hrr : (ra == ra) = true := by simp
      have hBo := HB.out
      clear hmi hCI hcil hci hcells hlen ha hb hra hrb hgood hbig HGD HBG HHA HHB HCI HCS HBW HO hMs HM3 HX4 HY4 HAV HLV4 HROW HROWA HSX HSA HMM HHAS HMD HFT HCELLOK
      go_wp2_with fail
      refine (h1.out wo (Below.refl _ _)).mono ?_
      rintro e w21 ⟨rfl, hb21⟩
      clear c0 c1 c2 c3 c4 c5 c6 c7 c8
      obtain ⟨c0, c1, c2, c3, c4, c5, c6, c7, c8⟩ := (HQXo.out.below hb21 HQXo.out.lt).nine
      go_wp2_with fail
      refine (h2.out w21 hb21).mono ?_
      rintro e w22 ⟨rfl, hb22⟩
      have hbb : Below wo.heap.size wo w22 := hb21.trans (hb22.mono hb21.size)
      clear c0 c1 c2 c3 c4 c5 c6 c7 c8
      obtain ⟨c0, c1, c2, c3, c4, c5, c6, c7, c8⟩ := (HQYo.out.below hbb HQYo.out.lt).nine
      go_wp2_with fail
      refine (h3.out w22 hbb).mono ?_
      rintro e w23 ⟨rfl, hb23⟩
      have hbc : Below wo.heap.size wo w23 := hbb.trans (hb23.mono hbb.size)
      have haw := glawake_any w23
      clear c0 c1 c2 c3 c4 c5 c6 c7 c8 hb21 hb22 hb23 hbb h1 h2 h3
      go_wp2_with fail
      refine haw.mono ?_
      rintro e wf ⟨rfl, hbf⟩
      have bf := bw.trans ((hbc.trans (hbf.mono hbc.size)).mono (by have := bw.size; omega))
      clear hbf hbc
      go_wp2_with fail
      go_ret
      exact ⟨rfl, bf⟩
end Go.Proofs.YthooiobhlbnaoaaGreat
