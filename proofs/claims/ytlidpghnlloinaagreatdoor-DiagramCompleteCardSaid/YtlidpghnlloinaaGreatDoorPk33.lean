/- Contracts and plain laws, several texts in one (DlAw). No conditions beyond those stated. -/
import Derived.Test.YtlidpghnlloinaaGreatDoorPk32
set_option maxRecDepth 100000
set_option maxHeartbeats 40000000
namespace Go.Proofs.YtlidpghnlloinaaGreatDoor
open Go.RowKit
set_option linter.unusedVariables false
theorem dlawake_any (K : Nat) (w : World) (hK : K <= w.heap.size) (htab : PTab K w) : Calls Tryz.prog 12 #[] w fun e w' => e = .returned (.bool true) /\ Below w.heap.size w w':=by
 have hl : Calls Tryz.prog 46 #[.int .i64 60] w _:=dlless_full 60 (by decide) (by decide) w
 obtain ⟨T,hT⟩ : ∃ T,w.heap.size = T:=⟨_,rfl⟩
 have HT:=Lib.hid hT
 rw [hT] at hl hK ⊢
 have HL:=Lib.hid hl
 have HTAB:=Lib.hid htab
 clear hl hT htab
 go_enter Tryz.func12,Tryz.ntmps12
 go_wp2_with fail
 refine HL.out.mono ?_
 clear HL
 rintro e w1 ⟨b,s1,s2,rfl,hTb,hqb,hvl,hb1⟩
 obtain ⟨X1,hX1⟩ : ∃ X : Xv,X = opX 13 ⟨some ⟨b,0,none⟩,2,2⟩:=⟨_,rfl⟩
 have HX1:=Lib.hid hX1
 clear hX1
 obtain ⟨B1,hB1⟩ : ∃ B,w1.heap.size = B:=⟨_,rfl⟩
 have hTB1 : T <= B1:=by have := hb1.size; have := HT.out; omega
 have hbB1 : b < B1:=by rw [<- hB1]; exact hqb.lt
 have h1c1 : ∀ u ∈ (opX 13 ⟨some ⟨b,0,none⟩,2,2⟩).cells,u.oneCell' = true:=by simp [Value.oneCell']
 have H1C1:=Lib.hid h1c1
 have HVL:=Lib.hid hvl
 have HQB:=Lib.hid hqb
 have HBW1:=Lib.hid hb1
 have HB1:=Lib.hid hB1
 clear h1c1 hvl hqb hb1
 go_upto_region 2 with (refine wpList_store_new rfl 49 (.tmp 1) (.tmp 22) rfl (opX 13 ⟨some ⟨b,0,none⟩,2,2⟩).cells _ infoExN rfl H1C1.out w1.heap.size rfl rfl rfl ?_)
 generalize hW2 : World.alloc w1 _ = W2
 have q1 : Blk W2 B1 X1.cells 49:=by rw [<- hW2,<- HB1.out,HX1.out]; exact Blk.new w1 _ _
 have b12 : Below B1 w1 W2:=by rw [<- hW2,<- HB1.out]; exact (Below.refl _ _).alloc (Nat.le_refl _) _
 have z2 : W2.heap.size = B1 + 1:=by rw [<- hW2,World.size_alloc,HB1.out]
 have r1 : W2.rangeAt B1 0 (opX 13 ⟨some ⟨b,0,none⟩,2,2⟩).cells.toList:=by have := q1.range; rwa [HX1.out] at this
 have HQ1:=Lib.hid q1
 have HB12:=Lib.hid b12
 have Z2:=Lib.hid z2
 clear hW2 q1 b12 z2
 go_upto_region 3 with (first
  | (refine wpList_load_mid rfl 49 (.tmp 1) rfl B1 0 rfl (opX 13 ⟨some ⟨b,0,none⟩,2,2⟩).cells.toList _ r1 Tryz.underlying49 rfl infoExN ?_)
  | (refine wpList_store_new rfl 49 (.tmp 2) (.tmp 23) rfl (opX 13 ⟨some ⟨b,0,none⟩,2,2⟩).cells _ infoExN rfl H1C1.out W2.heap.size rfl rfl rfl ?_))
 generalize hW3 : World.alloc W2 _ = W3
 have q2 : Blk W3 (B1 + 1) X1.cells 49:=by rw [<- hW3,<- Z2.out,HX1.out]; exact Blk.new W2 _ _
 have b23 : Below (B1 + 1) W2 W3:=by rw [<- hW3,<- Z2.out]; exact (Below.refl _ _).alloc (Nat.le_refl _) _
 have z3 : W3.heap.size = B1 + 2:=by rw [<- hW3,World.size_alloc,Z2.out]
 try simp only [Z2.out]
 have b13 : Below B1 w1 W3:=HB12.out.trans (b23.mono (by omega))
 have qb3:=HQB.out.below b13 hbB1
 have q13:=HQ1.out.below b23 (by omega)
 obtain ⟨W3d,hW3d⟩ : ∃ W,W3.drew = W:=⟨_,rfl⟩
 have b13d : Below B1 w1 W3d:=by rw [<- hW3d]; exact below_quiet b13
 have z3d : W3d.heap.size = B1 + 2:=by rw [<- hW3d]; exact z3
 have qS : (fun W' : World => Blk W' B1 X1.cells 49 /\ Blk W' b (cells2 agnX (conX 2 false s1 false s2 0)) 49) W3d:=by rw [<- hW3d]; exact ⟨q13,qb3⟩
 have q2d : Blk W3d (B1 + 1) X1.cells 49:=by rw [<- hW3d]; exact q2
 have HB13:=Lib.hid b13d
 have Z3:=Lib.hid z3d
 have HQ2:=Lib.hid q2d
 refine region_plain (fun W' : World => Blk W' B1 X1.cells 49 /\ Blk W' b (cells2 agnX (conX 2 false s1 false s2 0)) 49) [] (by kernel_rfl) ?_
 rw [hW3d]
 have hc8 : ∀ W',Blk W' B1 X1.cells 49 -> W'.cell? ⟨B1,8,none⟩ = some (.slice (some ⟨b,0,none⟩) 2 2):=fun W' h => h.at (by rw [HX1.out]; rfl)
 have HC8:=Lib.hid hc8
 clear hW3 q2 b23 z3 b13 qb3 q13 hW3d b13d z3d r1 q2d hc8
 refine wpAnyD_tpX (i:=0) (v:=.pointer (some ⟨B1,8,none⟩)) (some 24) rfl rfl qS ?_
 refine wpAnyD_tkX (i:=1) (v:=.slice (some ⟨b,0,none⟩) 2 2) (some 25) rfl rfl (.inl ⟨by kernel_rfl,fun W' hS => by have d0:=HC8.out W' hS.1; go_simp⟩) qS ?_
 refine wpAnyD_tpX (i:=2) (v:=.pointer (some ⟨b,9,none⟩)) (some 26) rfl rfl qS ?_
 refine wpAnyD_tkX (i:=3) (v:=(conX 2 false s1 false s2 0).agg) (some 27) rfl rfl (yieldsIf_load_mid (by kernel_rfl) 49 (.tmp 26) rfl b 9 (by first | rfl | go_simp) (conX 2 false s1 false s2 0).cells.toList _ (fun W' hS => blk_snd hS.2) Tryz.underlying49 rfl infoExN) qS ?_
 refine wpAnyD_tpX (i:=4) (v:=.pointer (some ⟨B1,8,none⟩)) (some 28) rfl rfl qS ?_
 refine wpAnyD_tkX (i:=5) (v:=.slice (some ⟨b,0,none⟩) 2 2) (some 29) rfl rfl (.inl ⟨by kernel_rfl,fun W' hS => by have d0:=HC8.out W' hS.1; go_simp⟩) qS ?_
 refine wpAnyD_tpX (i:=6) (v:=.pointer (some ⟨b,0,none⟩)) (some 30) rfl rfl qS ?_
 refine wpAnyD_tkX (i:=7) (v:=agnX.agg) (some 31) rfl rfl (yieldsIf_load_mid (by kernel_rfl) 49 (.tmp 30) rfl b 0 (by first | rfl | go_simp) agnX.cells.toList _ (fun W' hS => blk_fst hS.2) Tryz.underlying49 rfl infoExN) qS ?_
 refine wpAnyD_one (i:=8) (by kernel_rfl) rfl (by kernel_rfl) ?_
 go_simp
 try simp only [Z3.out]
 generalize hW4 : World.alloc W3d _ = W4
 have b4 : Below (B1 + 2) W3d W4:=by rw [<- hW4,<- Z3.out]; exact (Below.refl _ _).alloc (Nat.le_refl _) _
 have q4 : Blk W4 (B1 + 2) (cells2 (conX 2 false s1 false s2 0) agnX) 49:=by rw [<- hW4,<- Z3.out]; exact Blk.new W3d _ _
 have q24:=HQ2.out.below b4 (by omega)
 have z4 : W4.heap.size = B1 + 3:=by rw [<- hW4,World.size_alloc,Z3.out]
 have qS4 : (fun W' : World => Blk W' B1 X1.cells 49 /\ Blk W' b (cells2 agnX (conX 2 false s1 false s2 0)) 49) W4:=⟨qS.1.below b4 (by omega),qS.2.below b4 (by omega)⟩
 have HB4:=Lib.hid b4
 have HQ4:=Lib.hid q4
 have HQ24:=Lib.hid q24
 have Z4:=Lib.hid z4
 clear hW4 b4 q4 q24 z4
 refine ⟨qS4,?_⟩
 refine wpAnyD_tpX (i:=9) (v:=.pointer (some ⟨B1 + 1,8,none⟩)) (some 33) rfl rfl qS4 ?_
 have t0 : W4.cell? ⟨B1 + 1,8,none⟩ = some (.slice (some ⟨b,0,none⟩) 2 2):=HQ24.out.at (by rw [HX1.out]; rfl)
 have t1 : W4.frozen? ⟨B1 + 1,8,none⟩ = false:=HQ24.out.free 8
 refine wpAnyD_one (i:=10) (by kernel_rfl) rfl (by kernel_rfl) ?_
 go_simp
 generalize hW5 : World.setCell W4 _ _ = W5
 obtain ⟨X2,hX2⟩ : ∃ X : Xv,X = opX 13 ⟨some ⟨B1 + 2,0,none⟩,2,2⟩:=⟨_,rfl⟩
 have HX2:=Lib.hid hX2
 clear hX2
 have b15 : Below B1 w1 W5:=by rw [<- hW5]; exact (HB13.out.trans (HB4.out.mono (by omega))).setCell (p:=⟨B1 + 1,8,none⟩) (Nat.le_succ _) _
 have q25 : Blk W5 (B1 + 1) X2.cells 49:=by
  rw [<- hW5]
  have := HQ24.out.set (i:=8) (.slice (some ⟨B1 + 2,0,none⟩) 2 2)
  rw [HX1.out] at this
  rw [HX2.out]; exact this
 have q15 : Blk W5 B1 X1.cells 49:=by rw [<- hW5]; exact qS4.1.other (by omega) _
 have qb5 : Blk W5 b (cells2 agnX (conX 2 false s1 false s2 0)) 49:=by rw [<- hW5]; exact qS4.2.other (by omega) _
 have q45 : Blk W5 (B1 + 2) (cells2 (conX 2 false s1 false s2 0) agnX) 49:=by rw [<- hW5]; exact HQ4.out.other (by omega) _
 have z5 : W5.heap.size = B1 + 3:=by rw [<- hW5,<- Z4.out]; simp [World.setCell]
 have nw : NewW T w1 W5:=NewW.of (by rw [HB1.out]; exact b15)
 have vl5:=HVL.out.move nw
 have x15 : ExN T W5 (lessG 60) X1:=by rw [HX1.out]; exact dlless_exn (by omega) qb5 vl5
 have x25 : ExN T W5 aboveG X2:=by rw [HX2.out]; exact exn_two q45 (by omega) (exn_con vl5) (exn_age _ _)
 have HE5:=Lib.hid (And.intro q15 (And.intro q25 (And.intro qb5 (And.intro x15 (And.intro x25 vl5)))))
 have HBT5 : Hid (Below T w W5):=Lib.hid (by have h1:=HBW1.out; exact h1.trans (b15.mono hTB1))
 have Z5:=Lib.hid z5
 refine ⟨⟨q15,qb5⟩,?_⟩
 have r15 : W5.rangeAt B1 0 (opX 13 ⟨some ⟨b,0,none⟩,2,2⟩).cells.toList:=by have := q15.range; rwa [HX1.out] at this
 clear t0 t1 hW5 b15 q25 q15 qb5 q45 z5 nw vl5 x15 x25 qS qS4 HB4 HQ4 HQ24 Z4 HQ2 Z3 HB13 HC8 HVL HQ1 HB12 Z2 HQB HBW1
 refine wpAnyD_done (by kernel_rfl) ?_ _
 go_simp
 have h1c3 : ∀ u ∈ (opX 17 ⟨some ⟨W5.heap.size,0,none⟩,1,1⟩).cells,u.oneCell' = true:=by simp [Value.oneCell']
 have H1C3:=Lib.hid h1c3
 clear h1c3
 go_upto_region 5 with (first
  | (refine wpList_load_mid rfl 49 (.tmp 1) rfl B1 0 rfl (opX 13 ⟨some ⟨b,0,none⟩,2,2⟩).cells.toList _ r15 Tryz.underlying49 rfl infoExN ?_)
  | (refine wpList_store_new rfl 49 (.tmp 3) (.tmp 36) rfl (opX 17 ⟨some ⟨W5.heap.size,0,none⟩,1,1⟩).cells _ infoExN rfl H1C3.out (W5.heap.size + 1) (by simp) rfl rfl ?_))
 generalize hW6 : World.alloc (World.alloc W5 _) _ = W6
 obtain ⟨X3,hX3⟩ : ∃ X : Xv,X = opX 17 ⟨some ⟨W5.heap.size,0,none⟩,1,1⟩:=⟨_,rfl⟩
 have HX3:=Lib.hid hX3
 clear hX3
 have b56 : Below W5.heap.size W5 W6:=by rw [<- hW6]; exact ((Below.refl _ _).alloc (Nat.le_refl _) _).alloc (by simp) _
 have q6 : Blk W6 W5.heap.size X1.cells 49:=by rw [<- hW6,HX1.out]; exact (Blk.new W5 _ _).alloc _
 have q3 : Blk W6 (W5.heap.size + 1) X3.cells 49:=by
  rw [<- hW6,HX3.out]
  refine (?_ : Blk ((W5.alloc (.cells (opX 13 ⟨some ⟨b,0,none⟩,2,2⟩).cells 49)).alloc (.cells (opX 17 ⟨some ⟨W5.heap.size,0,none⟩,1,1⟩).cells 49)) (W5.heap.size + 1) _ _)
  have := Blk.new (W5.alloc (.cells (opX 13 ⟨some ⟨b,0,none⟩,2,2⟩).cells 49)) (opX 17 ⟨some ⟨W5.heap.size,0,none⟩,1,1⟩).cells 49
  rwa [World.size_alloc] at this
 obtain ⟨h51,h52,h53,h54,h55,h56⟩:=HE5.out
 have x36 : ExN T W6 nlessG X3:=by rw [HX3.out]; exact exn_one q6 (by have := Z5.out; omega) (h54.move (NewW.of b56))
 have HE:=Lib.hid (show AwE T W6 B1 (B1 + 1) (W5.heap.size + 1) b X1 X2 X3 s1 s2 from ⟨h51.below b56 h51.lt,h52.below b56 h52.lt,q3,h53.below b56 h53.lt,h54.move (NewW.of b56),h55.move (NewW.of b56),x36,h56.move (NewW.of b56)⟩)
 have hT5 : T <= W5.heap.size:=by have := Z5.out; omega
 have HBT:=Lib.hid (HBT5.out.trans (b56.mono hT5))
 have hTc : T <= W6.heap.size:=by have := b56.size; omega
 obtain ⟨zb,hZ⟩ : ∃ z,W5.heap.size + 1 = z:=⟨_,rfl⟩
 obtain ⟨Y,hY⟩ : ∃ Y,W5.heap.size = Y:=⟨_,rfl⟩
 rw [hZ] at HE ⊢
 rw [hY] at HX3 ⊢
 clear hW6 b56 q6 q3 h51 h52 h53 h54 h55 h56 x36 hT5 hZ hY HE5 HBT5 Z5 H1C3 r15
 have r1 : W6.rangeAt B1 0 (opX 13 ⟨some ⟨b,0,none⟩,2,2⟩).cells.toList:=by have := HE.out.q1.range; rwa [HX1.out] at this
 have r2 : W6.rangeAt zb 0 (opX 17 ⟨some ⟨Y,0,none⟩,1,1⟩).cells.toList:=by have := HE.out.q3.range; rwa [HX3.out] at this
 go_wp2_with (first
  | (refine wpList_load_mid rfl 49 (.tmp 1) rfl B1 0 rfl (opX 13 ⟨some ⟨b,0,none⟩,2,2⟩).cells.toList _ r1 Tryz.underlying49 rfl infoExN ?_)
  | (refine wpList_load_mid rfl 49 (.tmp 3) rfl zb 0 rfl (opX 17 ⟨some ⟨Y,0,none⟩,1,1⟩).cells.toList _ r2 Tryz.underlying49 rfl infoExN ?_))
 clear r1 r2
 generalize hW : World.alloc W6 _ = W7
 have q7 : Blk W7 W6.heap.size (cells2 X1 X3) 49:=by rw [<- hW,HX1.out,HX3.out]; exact Blk.new W6 _ _
 have b7 : Below W6.heap.size W6 W7:=by rw [<- hW]; exact (Below.refl _ _).alloc (Nat.le_refl _) _
 clear hW
 have HE:=Lib.hid (HE.out.move b7)
 have HBT:=Lib.hid (HBT.out.trans (b7.mono hTc))
 have hTc : T <= W7.heap.size:=Nat.le_trans hTc b7.size
 have hcall:=bld2 W7 W6.heap.size X1 X3 (lessG 60) nlessG sc60 q7 HE.out.x1.now HE.out.x3.now dl_good.1 dl_good.2.1 parts_small.1 parts_small.2.1 dl_sa one60 ((HTAB.out.on (HBT.out.mono hK)).up (Nat.le_trans hK hTc))
 have HCALL:=Lib.hid hcall
 clear hcall q7 b7
 refine HCALL.out.mono ?_
 clear HCALL
 rintro e w8 ⟨⟨⟨aa,an,am⟩,⟨aa2,an2,am2⟩,⟨aa3,an3,am3⟩,ar⟩,rfl,hdg,hb8⟩
 obtain ⟨l1,l2,l3⟩:=hdg.now.lens
 dsimp only at l1 l2 l3
 have HDa:=Lib.hid hdg
 clear hdg
 obtain rfl : an = 1:=l1.trans (rfl)
 obtain rfl : an2 = 1:=l2.trans (by unfold stO; rw [dl_ta]; rfl)
 obtain rfl : an3 = 2:=l3.trans (by unfold stO; rw [dl_ta]; rfl)
 clear l1 l2 l3
 have h1c : ∀ u ∈ (#[.slice aa 1 am,.slice aa2 1 am2,.slice aa3 2 am3,.int .i64 ar] : Array Value),u.oneCell' = true:=by simp [Value.oneCell']
 have H1C:=Lib.hid h1c
 clear h1c
 dsimp only [Dv.agg,Dv.cells,Sl.val]
 have HE:=Lib.hid (HE.out.move hb8)
 have HBT:=Lib.hid (HBT.out.trans (hb8.mono hTc))
 have hTc : T <= w8.heap.size:=Nat.le_trans hTc hb8.size
 clear hb8
 go_upto_region 6 with (refine wpList_store_new rfl 29 (.tmp 4) (.tmp 42) rfl #[.slice aa 1 am,.slice aa2 1 am2,.slice aa3 2 am3,.int .i64 ar] _ infoDiagN rfl H1C.out w8.heap.size rfl rfl rfl ?_)
 clear H1C
 generalize hW : World.alloc w8 _ = W9
 have b9 : Below w8.heap.size w8 W9:=by rw [<- hW]; exact (Below.refl _ _).alloc (Nat.le_refl _) _
 have hq9 : Blk W9 w8.heap.size #[.slice aa 1 am,.slice aa2 1 am2,.slice aa3 2 am3,.int .i64 ar] 29:=by rw [<- hW]; exact Blk.new w8 _ _
 have HQa:=Lib.hid hq9
 clear hW hq9
 have HE:=Lib.hid (HE.out.move b9)
 have HBT:=Lib.hid (HBT.out.trans (b9.mono hTc))
 have hTc : T <= W9.heap.size:=Nat.le_trans hTc b9.size
 have HDa:=Lib.hid (HDa.out.move b9)
 obtain ⟨Da,hDa⟩ : ∃ D,w8.heap.size = D:=⟨_,rfl⟩
 rw [hDa] at HQa ⊢
 clear b9 hDa
 have r1 : W9.rangeAt B1 0 (opX 13 ⟨some ⟨b,0,none⟩,2,2⟩).cells.toList:=by have := HE.out.q1.range; rwa [HX1.out] at this
 have r2 : W9.rangeAt (B1 + 1) 0 (opX 13 ⟨some ⟨B1 + 2,0,none⟩,2,2⟩).cells.toList:=by have := HE.out.q2.range; rwa [HX2.out] at this
 go_wp2_with (first
  | (refine wpList_load_mid rfl 49 (.tmp 1) rfl B1 0 rfl (opX 13 ⟨some ⟨b,0,none⟩,2,2⟩).cells.toList _ r1 Tryz.underlying49 rfl infoExN ?_)
  | (refine wpList_load_mid rfl 49 (.tmp 2) rfl (B1 + 1) 0 rfl (opX 13 ⟨some ⟨B1 + 2,0,none⟩,2,2⟩).cells.toList _ r2 Tryz.underlying49 rfl infoExN ?_))
 clear r1 r2
 generalize hW : World.alloc W9 _ = W10
 have q7 : Blk W10 W9.heap.size (cells2 X1 X2) 49:=by rw [<- hW,HX1.out,HX2.out]; exact Blk.new W9 _ _
 have b7 : Below W9.heap.size W9 W10:=by rw [<- hW]; exact (Below.refl _ _).alloc (Nat.le_refl _) _
 clear hW
 have HE:=Lib.hid (HE.out.move b7)
 have HBT:=Lib.hid (HBT.out.trans (b7.mono hTc))
 have HQa:=Lib.hid (HQa.out.below b7 HQa.out.lt)
 have HDa:=Lib.hid (HDa.out.move b7)
 have hTc : T <= W10.heap.size:=Nat.le_trans hTc b7.size
 have hcall:=bld2 W10 W9.heap.size X1 X2 (lessG 60) aboveG sc60 q7 HE.out.x1.now HE.out.x2.now dl_good.1 dl_good.2.2.1 parts_small.1 parts_small.2.2.1 dl_sb one60 ((HTAB.out.on (HBT.out.mono hK)).up (Nat.le_trans hK hTc))
 have HCALL:=Lib.hid hcall
 clear hcall q7 b7
 refine HCALL.out.mono ?_
 clear HCALL
 rintro e w11 ⟨⟨⟨ba,bn,bm⟩,⟨ba2,bn2,bm2⟩,⟨ba3,bn3,bm3⟩,br⟩,rfl,hdg,hb8⟩
 obtain ⟨l1,l2,l3⟩:=hdg.now.lens
 dsimp only at l1 l2 l3
 have HDb:=Lib.hid hdg
 clear hdg
 obtain rfl : bn = 1:=l1.trans (rfl)
 clear l1 l2 l3
 have h1c : ∀ u ∈ (#[.slice ba 1 bm,.slice ba2 bn2 bm2,.slice ba3 bn3 bm3,.int .i64 br] : Array Value),u.oneCell' = true:=by simp [Value.oneCell']
 have H1C:=Lib.hid h1c
 clear h1c
 dsimp only [Dv.agg,Dv.cells,Sl.val]
 have HE:=Lib.hid (HE.out.move hb8)
 have HBT:=Lib.hid (HBT.out.trans (hb8.mono hTc))
 have HQa:=Lib.hid (HQa.out.below hb8 HQa.out.lt)
 have HDa:=Lib.hid (HDa.out.move hb8)
 have hTc : T <= w11.heap.size:=Nat.le_trans hTc hb8.size
 clear hb8
 go_upto_region 7 with (refine wpList_store_new rfl 29 (.tmp 6) (.tmp 49) rfl #[.slice ba 1 bm,.slice ba2 bn2 bm2,.slice ba3 bn3 bm3,.int .i64 br] _ infoDiagN rfl H1C.out w11.heap.size rfl rfl rfl ?_)
 clear H1C
 generalize hW : World.alloc w11 _ = W12
 have b9 : Below w11.heap.size w11 W12:=by rw [<- hW]; exact (Below.refl _ _).alloc (Nat.le_refl _) _
 have hq9 : Blk W12 w11.heap.size #[.slice ba 1 bm,.slice ba2 bn2 bm2,.slice ba3 bn3 bm3,.int .i64 br] 29:=by rw [<- hW]; exact Blk.new w11 _ _
 have HQb:=Lib.hid hq9
 clear hW hq9
 have HE:=Lib.hid (HE.out.move b9)
 have HBT:=Lib.hid (HBT.out.trans (b9.mono hTc))
 have HQa:=Lib.hid (HQa.out.below b9 HQa.out.lt)
 have HDa:=Lib.hid (HDa.out.move b9)
 have hTc : T <= W12.heap.size:=Nat.le_trans hTc b9.size
 have HDb:=Lib.hid (HDb.out.move b9)
 obtain ⟨Db,hDb⟩ : ∃ D,w11.heap.size = D:=⟨_,rfl⟩
 rw [hDb] at HQb ⊢
 clear b9 hDb
 have r1 : W12.rangeAt B1 0 (opX 13 ⟨some ⟨b,0,none⟩,2,2⟩).cells.toList:=by have := HE.out.q1.range; rwa [HX1.out] at this
 have q1:=HE.out.q1
 have HR1 : Hid (∀ W',Below W12.heap.size W12 W' -> W'.rangeAt B1 0 (opX 13 ⟨some ⟨b,0,none⟩,2,2⟩).cells.toList):=Lib.hid fun W' hb => by have := (q1.below hb q1.lt).range; rwa [HX1.out] at this
 clear r1 q1
 go_upto_region 7 with fail
 have qS : (fun W' => Below W12.heap.size W12 W') W12.drew:=below_quiet (Below.refl _ _)
 refine region_plain (fun W' => Below W12.heap.size W12 W') [] (by kernel_rfl) ?_
 refine wpAnyD_tkX (i:=0) (v:=(opX 13 ⟨some ⟨b,0,none⟩,2,2⟩).agg) (some 52) rfl rfl (yieldsIf_load_mid (by kernel_rfl) 49 (.tmp 1) rfl B1 0 (by first | rfl | go_simp) (opX 13 ⟨some ⟨b,0,none⟩,2,2⟩).cells.toList _ (fun W' hS => HR1.out W' hS) Tryz.underlying49 rfl infoExN) qS ?_
 go_simp
 refine wpAnyD_chain3X (c1:=1) (c2:=2) (c3:=3) (i:=7) (L0:=?L0) (L1:=?L1) (A:=?A) (some 53) (some 54) (some 55) (some 8) 3 29 #[.slice none 0 0,.slice none 0 0,.slice none 0 0,.int .i64 0]
  (fun _ W => Below W12.heap.size W12 W)
  (fun v _ W => Below W12.heap.size W12 W /\ ∃ X : Xv,v = X.agg /\ ExN W12.heap.size W (lessG 65) X)
  (fun v v' _ W => Below W12.heap.size W12 W /\ ∃ (X : Xv) (c : Nat),v' = .slice (some ⟨c,0,none⟩) 2 2 /\ Blk W c (cells2 X1 X) 49 /\ ExN W12.heap.size W (lessG 65) X)
  (fun v v' v'' Fp W => Below W12.heap.size W12 W /\ ∃ (y : Dv) (L : Nat) (V : World),v'' = .tuple #[y.agg,.int .i64 0] /\ W12.heap.size <= L /\ DgN L V y [sc65] [lessG 60,lessG 65] /\ NewW L V W /\ ∀ b,L <= b -> b < V.heap.size -> Fp b)
  (by kernel_rfl) (by kernel_rfl) (by kernel_rfl) (by kernel_rfl) (by kernel_rfl) (by kernel_rfl) ?hrn ?hL rfl rfl (fun _ => rfl) (by decide) rfl rfl (fun _ => rfl) (by decide) rfl rfl (fun _ => rfl) (by decide) (fun W W' h1 h2 => h1.trans (h2.mono h1.size)) qS rfl rfl (fun _ => rfl) (fun a W KK hK => by go_simp; exact hK) (fun _ W W' h1 h2 => h1.trans (h2.mono h1.size)) ?st1 ?st2 ?st3 ?step1 ?step2 ?step3 ?htk0 ?htk1 ?hA qS ?h
 case htk0 | htk1 =>
  intro v1 v2 v p Fp W' hF hS H
  refine wpAnyD_tpX (i:=4) (v:=v) (some 51) rfl rfl hS ?_
  refine wpAnyD_tkX (i:=5) (v:=tupA v 0) (some 56) rfl rfl (.inl ⟨by kernel_rfl,fun W' hS => by obtain ⟨_,y,L,V,rfl,_⟩:=hF; go_simp <;> rfl⟩) hS ?_
  refine wpAnyD_tkX (i:=6) (v:=tupA v 1) (some 57) rfl rfl (.inl ⟨by kernel_rfl,fun W' hS => by obtain ⟨_,y,L,V,rfl,_⟩:=hF; go_simp <;> rfl⟩) hS ?_
  exact H
 case hrn => kernel_rfl
 case hL => rfl
 case hA => intro v1 v2 v p q; exact put_over (by decide) (put_over (by decide) (put_over (by decide) (put_over (by decide) (put_over (by decide) (put_over (by decide) (put_twice _ _ _ _))))))
 case st1 =>
  rintro v Fp W W' ⟨h1,X,rfl,h2⟩ hb
  exact ⟨h1.trans (hb.mono h1.size),X,rfl,h2.move (NewW.of hb)⟩
 case st2 =>
  rintro v v' Fp W W' ⟨h1,X,c,rfl,h2,h3⟩ hb
  exact ⟨h1.trans (hb.mono h1.size),X,c,rfl,h2.below hb h2.lt,h3.move (NewW.of hb)⟩
 case st3 =>
  rintro v v' v'' Fp W W' ⟨h1,y,L,V,rfl,h2,h3,h4,h5⟩ hb
  exact ⟨h1.trans (hb.mono h1.size),y,L,V,rfl,h2,h3,h4.trans (NewW.of hb),h5⟩
 case step1 =>
  intro Fp W p hF KK hKK
  have hl : Calls Tryz.prog 46 #[.int .i64 65] W _:=dlless_any 65 (by decide) (by decide) W
  go_simp
  refine hl.mono ?_
  rintro en w' ⟨X,rfl,hX,hb⟩
  exact hKK _ (fun _ => False) w' ⟨hF.trans (hb.mono hF.size),X,rfl,hX.mono hF.size⟩ (fun _ h => h.elim) hb
 case step2 =>
  rintro v1 Fp W p ⟨hF,X,rfl,hX⟩ KK hKK
  have hb : Below W.heap.size W (W.alloc (.cells (cells2 X1 X) 49)):=(Below.refl _ _).alloc (Nat.le_refl _) _
  have hk:=hKK (.slice (some ⟨W.heap.size,0,none⟩) 2 2) (fun _ => False) (W.alloc (.cells (cells2 X1 X) 49)) ⟨hF.trans (hb.mono hF.size),X,W.heap.size,rfl,Blk.new W _ _,hX.move (NewW.of hb)⟩ (fun _ h => h.elim) hb
  rw [HX1.out] at hk
  clear hKK hb hX
  go_simp
  exact hk
 case step3 =>
  rintro v1 v2 Fp W p ⟨hF,X,c,rfl,hq,hX⟩ KK hKK
  have hE:=HE.out.move hF
  have hcall:=bld2 W c X1 X (lessG 60) (lessG 65) sc65 hq hE.x1.now hX.now dl_good.1 dl_good.2.2.2 parts_small.1 parts_small.2.2.2 dl_sc one65 ((HTAB.out.on ((HBT.out.trans (hF.mono hTc)).mono hK)).up (Nat.le_trans hK (Nat.le_trans hTc hF.size)))
  have HCALL:=Lib.hid hcall
  clear hcall hE hq hX
  go_simp
  refine HCALL.out.mono ?_
  rintro en w' ⟨y,rfl,hdg,hb⟩
  exact hKK _ (Btw W.heap.size w'.heap.size) w' ⟨hF.trans (hb.mono hF.size),y,W.heap.size,w',rfl,hF.size,hdg,NewW.refl _ _,fun b h1 h2 => ⟨h1,h2⟩⟩ (fun _ h => .inr h) hb
 case h =>
  rintro v1 v2 v3 Fp k W13 ⟨hB,⟨⟨ca,cn,cm⟩,⟨ca2,cn2,cm2⟩,⟨ca3,cn3,cm3⟩,cr⟩,L,V,rfl,hL,hdg,hnw,hFp⟩ hnk _ hq hk hbk
  have h1c : ∀ u ∈ (#[.slice ca cn cm,.slice ca2 cn2 cm2,.slice ca3 cn3 cm3,.int .i64 cr] : Array Value),u.oneCell' = true:=by simp [Value.oneCell']
  have H1C:=Lib.hid h1c
  have hkr : k < L \/ V.heap.size <= k:=by
   by_cases h1 : k < L
   ·exact .inl h1
   ·by_cases h2 : k < V.heap.size
    ·exact absurd (hFp k (by omega) h2) hnk
    ·exact .inr (by omega)
  have HDV:=Lib.hid (And.intro hdg (And.intro hnw hkr))
  have HQK:=Lib.hid hq
  have HBK:=Lib.hid hbk
  have HKW:=Lib.hid hk
  clear h1c hdg hnw hFp hnk hq hkr hbk hk
  go_simp
  refine wpAnyD_one (i:=8) (by kernel_rfl) rfl (by kernel_rfl) ?_
  refine wp_store_blkD 29 29 (.tmp 8) (.tmp 56) rfl #[.slice ca cn cm,.slice ca2 cn2 cm2,.slice ca3 cn3 cm3,.int .i64 cr] _ k HQK.out infoDiagN rfl H1C.out rfl rfl ?_
  intro W15 t1 t2 t3 t4
  have b15 : Below W12.heap.size W12 W15:=hB.trans (t2 _ HKW.out)
  refine ⟨fun _ => b15,?_⟩
  refine wpAnyD_tkX (i:=9) (v:=.int .i64 0) (some 9) rfl rfl (.inl ⟨by kernel_rfl,fun W' hS => by go_simp <;> rfl⟩) b15 ?_
  refine wpAnyD_done (by kernel_rfl) ?_ _
  obtain ⟨hdg,hnw,hkr⟩:=HDV.out
  have hnw2:=hnw.puts t3 hkr
  have HDc : Hid (DgN L W15 ⟨⟨ca,cn,cm⟩,⟨ca2,cn2,cm2⟩,⟨ca3,cn3,cm3⟩,cr⟩ [sc65] [lessG 60,lessG 65]):=Lib.hid fun X hx => hdg X (hnw2.trans hx)
  have HQc:=Lib.hid t1
  clear hdg hnw hkr hnw2 t1 t2 t3 t4 HDV HQK HBK HKW H1C hB HR1
  have HE:=Lib.hid (HE.out.move b15)
  have HBT:=Lib.hid (HBT.out.trans (b15.mono hTc))
  have HQa:=Lib.hid (HQa.out.below b15 HQa.out.lt)
  have HDa:=Lib.hid (HDa.out.move b15)
  have HQb:=Lib.hid (HQb.out.below b15 HQb.out.lt)
  have HDb:=Lib.hid (HDb.out.move b15)
  have hTc : T <= W15.heap.size:=Nat.le_trans hTc b15.size
  clear b15
  go_simp
  have hcall:=bld0 W15 ((HTAB.out.on (HBT.out.mono hK)).up (Nat.le_trans hK hTc))
  have HCALL:=Lib.hid hcall
  clear hcall
  go_wp2_with fail
  refine HCALL.out.mono ?_
  clear HCALL
  rintro e w16 ⟨⟨⟨da,dn,dm⟩,⟨da2,dn2,dm2⟩,⟨da3,dn3,dm3⟩,dr⟩,rfl,hdg,hb8⟩
  obtain ⟨l1,l2,l3⟩:=hdg.now.lens
  dsimp only at l1 l2 l3
  have HDd:=Lib.hid hdg
  clear hdg
  obtain rfl : dn = 0:=l1.trans (rfl)
  clear l1 l2 l3
  have h1c : ∀ u ∈ (#[.slice da 0 dm,.slice da2 dn2 dm2,.slice da3 dn3 dm3,.int .i64 dr] : Array Value),u.oneCell' = true:=by simp [Value.oneCell']
  have H1C:=Lib.hid h1c
  clear h1c
  dsimp only [Dv.agg,Dv.cells,Sl.val]
  have HE:=Lib.hid (HE.out.move hb8)
  have HBT:=Lib.hid (HBT.out.trans (hb8.mono hTc))
  have HQa:=Lib.hid (HQa.out.below hb8 HQa.out.lt)
  have HDa:=Lib.hid (HDa.out.move hb8)
  have HQb:=Lib.hid (HQb.out.below hb8 HQb.out.lt)
  have HDb:=Lib.hid (HDb.out.move hb8)
  have HQc:=Lib.hid (HQc.out.below hb8 HQc.out.lt)
  have HDc:=Lib.hid (HDc.out.move hb8)
  have hTc : T <= w16.heap.size:=Nat.le_trans hTc hb8.size
  clear hb8
  go_upto_region 9 with (refine wpList_store_new rfl 29 (.tmp 10) (.tmp 60) rfl #[.slice da 0 dm,.slice da2 dn2 dm2,.slice da3 dn3 dm3,.int .i64 dr] _ infoDiagN rfl H1C.out w16.heap.size rfl rfl rfl ?_)
  clear H1C
  generalize hW : World.alloc w16 _ = W17
  have b9 : Below w16.heap.size w16 W17:=by rw [<- hW]; exact (Below.refl _ _).alloc (Nat.le_refl _) _
  have hq9 : Blk W17 w16.heap.size #[.slice da 0 dm,.slice da2 dn2 dm2,.slice da3 dn3 dm3,.int .i64 dr] 29:=by rw [<- hW]; exact Blk.new w16 _ _
  have HQd:=Lib.hid hq9
  clear hW hq9
  have HE:=Lib.hid (HE.out.move b9)
  have HBT:=Lib.hid (HBT.out.trans (b9.mono hTc))
  have HQa:=Lib.hid (HQa.out.below b9 HQa.out.lt)
  have HDa:=Lib.hid (HDa.out.move b9)
  have HQb:=Lib.hid (HQb.out.below b9 HQb.out.lt)
  have HDb:=Lib.hid (HDb.out.move b9)
  have HQc:=Lib.hid (HQc.out.below b9 HQc.out.lt)
  have HDc:=Lib.hid (HDc.out.move b9)
  have hTc : T <= W17.heap.size:=Nat.le_trans hTc b9.size
  have HDd:=Lib.hid (HDd.out.move b9)
  obtain ⟨Dd,hDd⟩ : ∃ D,w16.heap.size = D:=⟨_,rfl⟩
  rw [hDd] at HQd ⊢
  clear b9 hDd
  obtain ⟨a0,a1,a2,a3⟩:=HQa.out.four
  obtain ⟨d0,d1,d2,d3⟩:=HQd.out.four
  have hcall:=dcomplete_ok W17.heap.size ⟨⟨aa,1,am⟩,⟨aa2,1,am2⟩,⟨aa3,2,am3⟩,ar⟩ [sc60] (stO [sc60] [lessG 60,nlessG]) (rtO [sc60] [lessG 60,nlessG]) W17 HDa.out.now (dgvO _ one60) one60.good one60.pc (Nat.le_refl _)
  dsimp only [Dv.agg,Dv.cells,Sl.val] at hcall
  have HCALL:=Lib.hid hcall
  clear hcall
  go_wp2_with fail
  refine HCALL.out.mono ?_
  clear HCALL a0 a1 a2 a3 d0 d1 d2 d3
  rintro e w18 ⟨⟨r,rfl,hr⟩,hb18⟩
  obtain rfl : r = true:=hr.2 comp_a
  clear hr
  have HE:=Lib.hid (HE.out.move hb18)
  have HBT:=Lib.hid (HBT.out.trans (hb18.mono hTc))
  have HQa:=Lib.hid (HQa.out.below hb18 HQa.out.lt)
  have HDa:=Lib.hid (HDa.out.move hb18)
  have HQb:=Lib.hid (HQb.out.below hb18 HQb.out.lt)
  have HDb:=Lib.hid (HDb.out.move hb18)
  have HQc:=Lib.hid (HQc.out.below hb18 HQc.out.lt)
  have HDc:=Lib.hid (HDc.out.move hb18)
  have HQd:=Lib.hid (HQd.out.below hb18 HQd.out.lt)
  have HDd:=Lib.hid (HDd.out.move hb18)
  have hTc : T <= w18.heap.size:=Nat.le_trans hTc hb18.size
  clear hb18
  obtain ⟨d0,d1,d2,d3⟩:=HQd.out.four
  have hcall:=dcomplete_ok w18.heap.size ⟨⟨da,0,dm⟩,⟨da2,dn2,dm2⟩,⟨da3,dn3,dm3⟩,dr⟩ [] (stO [] []) (rtO [] []) w18 HDd.out.now dgv_no (fun s hs => by cases hs) (fun p hp => by cases hp) (Nat.le_refl _)
  dsimp only [Dv.agg,Dv.cells,Sl.val] at hcall
  have HCALL:=Lib.hid hcall
  clear hcall
  go_wp2_with fail
  refine HCALL.out.mono ?_
  clear HCALL d0 d1 d2 d3
  rintro e w19 ⟨⟨r,rfl,hr⟩,hb19⟩
  obtain rfl : r = false:=by
   cases r with
   | false => rfl
   | true => exact absurd comp_d (hr.1 rfl)
  clear hr
  have HE:=Lib.hid (HE.out.move hb19)
  have HBT:=Lib.hid (HBT.out.trans (hb19.mono hTc))
  have HQa:=Lib.hid (HQa.out.below hb19 HQa.out.lt)
  have HDa:=Lib.hid (HDa.out.move hb19)
  have HQb:=Lib.hid (HQb.out.below hb19 HQb.out.lt)
  have HDb:=Lib.hid (HDb.out.move hb19)
  have HQc:=Lib.hid (HQc.out.below hb19 HQc.out.lt)
  have HDc:=Lib.hid (HDc.out.move hb19)
  have HQd:=Lib.hid (HQd.out.below hb19 HQd.out.lt)
  have HDd:=Lib.hid (HDd.out.move hb19)
  have hTc : T <= w19.heap.size:=Nat.le_trans hTc hb19.size
  clear hb19
  obtain ⟨d0,d1,d2,d3⟩:=HQd.out.four
  obtain ⟨b0,b1,b2,b3⟩:=HQb.out.four
  have hcall:=dgap_ok w19.heap.size ⟨⟨ba,1,bm⟩,⟨ba2,bn2,bm2⟩,⟨ba3,bn3,bm3⟩,br⟩ [sc60] (stO [sc60] [lessG 60,aboveG]) (rtO [sc60] [lessG 60,aboveG]) w19 HDb.out.now (dgvO _ one60) one60.good one60.pc (Nat.le_refl _)
  dsimp only [Dv.agg,Dv.cells,Sl.val] at hcall
  have HCALL:=Lib.hid hcall
  clear hcall
  go_wp2_with fail
  refine HCALL.out.mono ?_
  clear HCALL b0 b1 b2 b3 d0 d1 d2 d3
  rintro e w20 ⟨hsq,hbx⟩
  obtain ⟨xv,rfl,hown⟩:=gap_b hsq
  obtain ⟨xa,xc,hxe,_,_⟩:=hown.form
  have hxe : xv = .slice xa 1 xc:=hxe
  subst hxe
  have HE:=Lib.hid (HE.out.move hbx)
  have HBT:=Lib.hid (HBT.out.trans (hbx.mono hTc))
  have HQa:=Lib.hid (HQa.out.below hbx HQa.out.lt)
  have HDa:=Lib.hid (HDa.out.move hbx)
  have HQb:=Lib.hid (HQb.out.below hbx HQb.out.lt)
  have HDb:=Lib.hid (HDb.out.move hbx)
  have HQc:=Lib.hid (HQc.out.below hbx HQc.out.lt)
  have HDc:=Lib.hid (HDc.out.move hbx)
  have HQd:=Lib.hid (HQd.out.below hbx HQd.out.lt)
  have HDd:=Lib.hid (HDd.out.move hbx)
  have hTc : T <= w20.heap.size:=Nat.le_trans hTc hbx.size
  have HNx:=Lib.hid hown.nats
  clear hsq hbx hown
  obtain ⟨c0,c1,c2,c3⟩:=HQc.out.four
  have hcall:=dgap_ok w20.heap.size ⟨⟨ca,cn,cm⟩,⟨ca2,cn2,cm2⟩,⟨ca3,cn3,cm3⟩,cr⟩ [sc65] (stO [sc65] [lessG 60,lessG 65]) (rtO [sc65] [lessG 60,lessG 65]) w20 HDc.out.now (dgvO _ one65) one65.good one65.pc (Nat.le_refl _)
  dsimp only [Dv.agg,Dv.cells,Sl.val] at hcall
  have HCALL:=Lib.hid hcall
  clear hcall
  go_wp2_with fail
  refine HCALL.out.mono ?_
  clear HCALL c0 c1 c2 c3
  rintro e w21 ⟨hsq,hbx⟩
  obtain ⟨yv,rfl,hown⟩:=gap_c hsq
  obtain ⟨ya,yc,hxe,_,_⟩:=hown.form
  have hxe : yv = .slice ya 1 yc:=hxe
  subst hxe
  have HE:=Lib.hid (HE.out.move hbx)
  have HBT:=Lib.hid (HBT.out.trans (hbx.mono hTc))
  have HQa:=Lib.hid (HQa.out.below hbx HQa.out.lt)
  have HDa:=Lib.hid (HDa.out.move hbx)
  have HQb:=Lib.hid (HQb.out.below hbx HQb.out.lt)
  have HDb:=Lib.hid (HDb.out.move hbx)
  have HQc:=Lib.hid (HQc.out.below hbx HQc.out.lt)
  have HDc:=Lib.hid (HDc.out.move hbx)
  have HQd:=Lib.hid (HQd.out.below hbx HQd.out.lt)
  have HDd:=Lib.hid (HDd.out.move hbx)
  have hTc : T <= w21.heap.size:=Nat.le_trans hTc hbx.size
  have HNx:=Lib.hid (HNx.out.below hbx (Nat.le_refl _) hbx.size)
  have HNy:=Lib.hid hown.nats
  clear hsq hbx hown
  obtain ⟨c0,c1,c2,c3⟩:=HQc.out.four
  have hcall:=doverlap_ok w21.heap.size ⟨⟨ca,cn,cm⟩,⟨ca2,cn2,cm2⟩,⟨ca3,cn3,cm3⟩,cr⟩ [sc65] (stO [sc65] [lessG 60,lessG 65]) (rtO [sc65] [lessG 60,lessG 65]) w21 HDc.out.now (dgvO _ one65) one65.good one65.pc (Nat.le_refl _)
  dsimp only [Dv.agg,Dv.cells,Sl.val] at hcall
  have HCALL:=Lib.hid hcall
  clear hcall
  go_wp2_with fail
  refine HCALL.out.mono ?_
  clear HCALL c0 c1 c2 c3
  rintro e w22 ⟨hsq,hbx⟩
  obtain ⟨zv,rfl,hown⟩:=over_c hsq
  obtain ⟨za,zc,hxe,_,_⟩:=hown.form
  have hxe : zv = .slice za 1 zc:=hxe
  subst hxe
  have HE:=Lib.hid (HE.out.move hbx)
  have HBT:=Lib.hid (HBT.out.trans (hbx.mono hTc))
  have HQa:=Lib.hid (HQa.out.below hbx HQa.out.lt)
  have HDa:=Lib.hid (HDa.out.move hbx)
  have HQb:=Lib.hid (HQb.out.below hbx HQb.out.lt)
  have HDb:=Lib.hid (HDb.out.move hbx)
  have HQc:=Lib.hid (HQc.out.below hbx HQc.out.lt)
  have HDc:=Lib.hid (HDc.out.move hbx)
  have HQd:=Lib.hid (HQd.out.below hbx HQd.out.lt)
  have HDd:=Lib.hid (HDd.out.move hbx)
  have hTc : T <= w22.heap.size:=Nat.le_trans hTc hbx.size
  have HNx:=Lib.hid (HNx.out.below hbx (Nat.le_refl _) hbx.size)
  have HNy:=Lib.hid (HNy.out.below hbx (Nat.le_refl _) hbx.size)
  have HNz:=Lib.hid hown.nats
  clear hsq hbx hown
  obtain ⟨d0,d1,d2,d3⟩:=HQd.out.four
  have hcall:=dgap_ok w22.heap.size ⟨⟨da,0,dm⟩,⟨da2,dn2,dm2⟩,⟨da3,dn3,dm3⟩,dr⟩ [] (stO [] []) (rtO [] []) w22 HDd.out.now dgv_no (fun s hs => by cases hs) (fun p hp => by cases hp) (Nat.le_refl _)
  dsimp only [Dv.agg,Dv.cells,Sl.val] at hcall
  have HCALL:=Lib.hid hcall
  clear hcall
  go_wp2_with fail
  refine HCALL.out.mono ?_
  clear HCALL d0 d1 d2 d3
  rintro e w23 ⟨hsq,hbx⟩
  obtain ⟨uv,rfl,hown⟩:=gap_d hsq
  obtain ⟨ua,uc,hxe,_,_⟩:=hown.form
  have hxe : uv = .slice ua 0 uc:=hxe
  subst hxe
  have HE:=Lib.hid (HE.out.move hbx)
  have HBT:=Lib.hid (HBT.out.trans (hbx.mono hTc))
  have HQa:=Lib.hid (HQa.out.below hbx HQa.out.lt)
  have HDa:=Lib.hid (HDa.out.move hbx)
  have HQb:=Lib.hid (HQb.out.below hbx HQb.out.lt)
  have HDb:=Lib.hid (HDb.out.move hbx)
  have HQc:=Lib.hid (HQc.out.below hbx HQc.out.lt)
  have HDc:=Lib.hid (HDc.out.move hbx)
  have HQd:=Lib.hid (HQd.out.below hbx HQd.out.lt)
  have HDd:=Lib.hid (HDd.out.move hbx)
  have hTc : T <= w23.heap.size:=Nat.le_trans hTc hbx.size
  have HNx:=Lib.hid (HNx.out.below hbx (Nat.le_refl _) hbx.size)
  have HNy:=Lib.hid (HNy.out.below hbx (Nat.le_refl _) hbx.size)
  have HNz:=Lib.hid (HNz.out.below hbx (Nat.le_refl _) hbx.size)
  have HNu:=Lib.hid hown.nats
  clear hsq hbx hown
  obtain ⟨b0,b1,b2,b3⟩:=HQb.out.four
  have hcall:=dsample_ok w23.heap.size ⟨⟨ba,1,bm⟩,⟨ba2,bn2,bm2⟩,⟨ba3,bn3,bm3⟩,br⟩ [sc60] (stO [sc60] [lessG 60,aboveG]) (rtO [sc60] [lessG 60,aboveG]) (.slice xa 1 xc) [1] (fun _ => wV 2 60) w23 HDb.out.now (dgvO _ one60) one60.good HNx.out (CellsIn.cons (by rw [dl_c60]; simp) CellsIn.nil) (Nat.le_refl _) (fun i s c y W hs hc hx => by
   rcases i with _ | i
   ·cases hs
    cases hc
    exact gsampleO_any W.heap.size sc60 y 1 W hx (Nat.le_refl _) dl_cg60 dl_ok60 rfl (by kernel_rfl) rfl
   ·cases hs)
  dsimp only [Dv.agg,Dv.cells,Sl.val] at hcall
  have HCALL:=Lib.hid hcall
  clear hcall
  go_wp2_with fail
  refine HCALL.out.mono ?_
  clear HCALL b0 b1 b2 b3
  rintro e w24 ⟨vv,us,F,rfl,hvo,hbx⟩
  obtain ⟨vb,vo,vc,z,rfl,hvr,hvx,hvb⟩:=vo_one hvo
  have HE:=Lib.hid (HE.out.move hbx)
  have HBT:=Lib.hid (HBT.out.trans (hbx.mono hTc))
  have HQa:=Lib.hid (HQa.out.below hbx HQa.out.lt)
  have HDa:=Lib.hid (HDa.out.move hbx)
  have HQb:=Lib.hid (HQb.out.below hbx HQb.out.lt)
  have HDb:=Lib.hid (HDb.out.move hbx)
  have HQc:=Lib.hid (HQc.out.below hbx HQc.out.lt)
  have HDc:=Lib.hid (HDc.out.move hbx)
  have HQd:=Lib.hid (HQd.out.below hbx HQd.out.lt)
  have HDd:=Lib.hid (HDd.out.move hbx)
  have hTc : T <= w24.heap.size:=Nat.le_trans hTc hbx.size
  have HNx:=Lib.hid (HNx.out.below hbx (Nat.le_refl _) hbx.size)
  have HNy:=Lib.hid (HNy.out.below hbx (Nat.le_refl _) hbx.size)
  have HNz:=Lib.hid (HNz.out.below hbx (Nat.le_refl _) hbx.size)
  have HNu:=Lib.hid (HNu.out.below hbx (Nat.le_refl _) hbx.size)
  have HVR:=Lib.hid hvr
  have HVX:=Lib.hid hvx
  clear hbx hvo hvr hvx HQa HQb HQc HQd HDa HDb HDc HDd
  go_upto_region 16 with fail
  have qS : (fun W' => Below w24.heap.size w24 W') w24.drew:=below_quiet (Below.refl _ _)
  have q1:=HE.out.q1
  have qb:=HE.out.qb
  have HC8 : Hid (∀ W',Below w24.heap.size w24 W' -> W'.cell? ⟨B1,8,none⟩ = some (.slice (some ⟨b,0,none⟩) 2 2)):=Lib.hid fun W' hb => (q1.below hb q1.lt).at (by rw [HX1.out]; rfl)
  have HC9 : Hid (∀ W',Below w24.heap.size w24 W' -> W'.rangeAt b 11 (⟨2,false,s1.val,false,s2.val,0⟩ : Vv).cells.toList):=Lib.hid fun W' hb => blk_sndV (qb.below hb qb.lt)
  have HVR2 : Hid (∀ W',Below w24.heap.size w24 W' -> W'.rangeAt vb vo z.cells.toList):=Lib.hid fun W' hb j v hj => (hb.cell (p:=⟨vb,vo + j,none⟩) hvb).trans (HVR.out j v hj)
  have HWV : Hid (wV 2 60 = ⟨2,false,[60],false,[1],0⟩):=Lib.hid rfl
  clear q1 qb
  refine region_plain (fun W' => Below w24.heap.size w24 W') [] (by kernel_rfl) ?_
  refine wpAnyD_tpX (i:=0) (v:=.bool true) (some 129) rfl rfl qS ?_
  refine wpAnyD_tpX (i:=1) (v:=.bool true) (some 130) rfl rfl qS ?_
  refine wpAnyD_tpX (i:=2) (v:=.bool true) (some 131) rfl rfl qS ?_
  refine wpAnyD_tpX (i:=3) (v:=.bool true) (some 132) rfl rfl qS ?_
  refine wpAnyD_tpX (i:=4) (v:=.bool true) (some 133) rfl rfl qS ?_
  refine wpAnyD_tpX (i:=5) (v:=.bool true) (some 134) rfl rfl qS ?_
  go_simp
  refine wpAnyD_tpX (i:=6) (v:=.bool true) (some 135) rfl rfl qS ?_
  refine wpAnyD_tpX (i:=7) (v:=.bool true) (some 136) rfl rfl qS ?_
  refine wpAnyD_tpX (i:=8) (v:=.bool true) (some 137) rfl rfl qS ?_
  refine wpAnyD_tpX (i:=9) (v:=.bool true) (some 138) rfl rfl qS ?_
  refine wpAnyD_tpX (i:=10) (v:=.bool true) (some 139) rfl rfl qS ?_
  refine wpAnyD_tpX (i:=11) (v:=.int .i64 0) (some 140) rfl rfl qS ?_
  go_simp
  refine wpAnyD_tpX (i:=12) (v:=.bool true) (some 141) rfl rfl qS ?_
  refine wpAnyD_tpX (i:=13) (v:=.bool true) (some 142) rfl rfl qS ?_
  refine wpAnyD_tpX (i:=14) (v:=.bool true) (some 143) rfl rfl qS ?_
  refine wpAnyD_tpX (i:=15) (v:=.slice (some ⟨vb,vo,none⟩) 1 vc) (some 144) rfl rfl qS ?_
  refine wpAnyD_tpX (i:=16) (v:=.int .i64 1) (some 145) rfl rfl qS ?_
  refine wpAnyD_tpX (i:=17) (v:=.bool true) (some 146) rfl rfl qS ?_
  go_simp
  refine wpAnyD_tpX (i:=18) (v:=.bool true) (some 147) rfl rfl qS ?_
  refine wpAnyD_tpX (i:=19) (v:=.bool true) (some 148) rfl rfl qS ?_
  refine wpAnyD_tpX (i:=20) (v:=.slice (some ⟨vb,vo,none⟩) 1 vc) (some 149) rfl rfl qS ?_
  refine wpAnyD_tpX (i:=21) (v:=.pointer (some ⟨vb,vo,none⟩)) (some 150) rfl rfl qS ?_
  go_simp
  refine wpAnyD_tkX (i:=22) (v:=z.agg) (some 151) rfl rfl (yieldsIf_load_mid (by kernel_rfl) 47 (.tmp 150) rfl vb vo (by first | rfl | go_simp) z.cells.toList _ (fun W' hS => HVR2.out W' hS) Tryz.underlying47 rfl infoValN) qS ?_
  refine wpAnyD_tpX (i:=23) (v:=.pointer (some ⟨B1,8,none⟩)) (some 152) rfl rfl qS ?_
  refine wpAnyD_tkX (i:=24) (v:=.slice (some ⟨b,0,none⟩) 2 2) (some 153) rfl rfl (.inl ⟨by kernel_rfl,fun W' hS => by have d0:=HC8.out W' hS; go_simp⟩) qS ?_
  refine wpAnyD_tpX (i:=25) (v:=.pointer (some ⟨b,9,none⟩)) (some 154) rfl rfl qS ?_
  refine wpAnyD_tpX (i:=26) (v:=.pointer (some ⟨b,11,none⟩)) (some 155) rfl rfl qS ?_
  refine wpAnyD_tkX (i:=27) (v:=(⟨2,false,s1.val,false,s2.val,0⟩ : Vv).agg) (some 156) rfl rfl (yieldsIf_load_mid (by kernel_rfl) 47 (.tmp 155) rfl b 11 (by first | rfl | go_simp) (⟨2,false,s1.val,false,s2.val,0⟩ : Vv).cells.toList _ (fun W' hS => HC9.out W' hS) Tryz.underlying47 rfl infoValN) qS ?_
  have hcall:=ksamevalue_one w24.heap.size 60 1 z ⟨2,false,s1.val,false,s2.val,0⟩ w24.drew (by have h:=HVX.out; rw [HWV.out] at h; exact h.below qS (Nat.le_refl _) (Nat.le_refl _)) (by have h:=HE.out.vl.now; rw [HWV.out] at h; exact h.below qS (Nat.le_refl _) (Nat.le_refl _)) (Nat.le_refl _)
  have HCALL:=Lib.hid hcall
  clear hcall
  refine wpAnyD_one (i:=28) (by kernel_rfl) rfl (by kernel_rfl) ?_
  go_simp
  refine HCALL.out.mono ?_
  clear HCALL
  rintro e w25 ⟨rfl,hb25⟩
  have qS25 : Below w24.heap.size w24 w25:=qS.trans hb25
  refine ⟨qS25,?_⟩
  clear hb25 qS
  refine wpAnyD_tpX (i:=29) (v:=.bool true) (some 158) rfl rfl qS25 ?_
  refine wpAnyD_tpX (i:=30) (v:=.bool true) (some 159) rfl rfl qS25 ?_
  refine wpAnyD_tpX (i:=31) (v:=.slice xa 1 xc) (some 160) rfl rfl qS25 ?_
  refine wpAnyD_one (i:=32) (by kernel_rfl) rfl (by kernel_rfl) ?_
  go_simp
  generalize hW : World.alloc w25 _ = W26
  have hq : Blk W26 w25.heap.size #[Z 1] 3:=by rw [<- hW]; exact Blk.new w25 _ _
  have b26 : Below w25.heap.size w25 W26:=by rw [<- hW]; exact (Below.refl _ _).alloc (Nat.le_refl _) _
  have qS26 : Below w24.heap.size w24 W26:=qS25.trans (b26.mono qS25.size)
  refine ⟨qS26,?_⟩
  have hcall:=gints_any W26.heap.size (.slice xa 1 xc) (.slice (some ⟨w25.heap.size,0,none⟩) 1 1) [1] [1] W26 (HNx.out.below qS26 (Nat.le_refl _) qS26.size) (nats_new hq)
  rw [beq_self_eq_true] at hcall
  have HCALL:=Lib.hid hcall
  clear hcall hq b26 hW
  refine wpAnyD_one (i:=33) (by kernel_rfl) rfl (by kernel_rfl) ?_
  go_simp
  refine HCALL.out.mono ?_
  clear HCALL
  rintro e w27 ⟨rfl,kk,hkk⟩
  have qS27 : Below w24.heap.size w24 w27:=by rw [hkk]; exact below_drewN2 qS26 kk
  clear hkk
  refine ⟨qS27,?_⟩
  refine wpAnyD_tpX (i:=34) (v:=.bool true) (some 163) rfl rfl qS27 ?_
  refine wpAnyD_tpX (i:=35) (v:=.bool true) (some 164) rfl rfl qS27 ?_
  refine wpAnyD_tpX (i:=36) (v:=.slice ya 1 yc) (some 165) rfl rfl qS27 ?_
  refine wpAnyD_one (i:=37) (by kernel_rfl) rfl (by kernel_rfl) ?_
  go_simp
  generalize hW : World.alloc w27 _ = W28
  have hq : Blk W28 w27.heap.size #[Z 3] 3:=by rw [<- hW]; exact Blk.new w27 _ _
  have b28 : Below w27.heap.size w27 W28:=by rw [<- hW]; exact (Below.refl _ _).alloc (Nat.le_refl _) _
  have qS28 : Below w24.heap.size w24 W28:=qS27.trans (b28.mono qS27.size)
  refine ⟨qS28,?_⟩
  have hcall:=gints_any W28.heap.size (.slice ya 1 yc) (.slice (some ⟨w27.heap.size,0,none⟩) 1 1) [3] [3] W28 (HNy.out.below qS28 (Nat.le_refl _) qS28.size) (nats_new hq)
  rw [beq_self_eq_true] at hcall
  have HCALL:=Lib.hid hcall
  clear hcall hq b28 hW
  refine wpAnyD_one (i:=38) (by kernel_rfl) rfl (by kernel_rfl) ?_
  go_simp
  refine HCALL.out.mono ?_
  clear HCALL
  rintro e w29 ⟨rfl,kk,hkk⟩
  have qS29 : Below w24.heap.size w24 w29:=by rw [hkk]; exact below_drewN2 qS28 kk
  clear hkk
  refine ⟨qS29,?_⟩
  refine wpAnyD_tpX (i:=39) (v:=.bool true) (some 168) rfl rfl qS29 ?_
  refine wpAnyD_tpX (i:=40) (v:=.bool true) (some 169) rfl rfl qS29 ?_
  refine wpAnyD_tpX (i:=41) (v:=.slice za 1 zc) (some 170) rfl rfl qS29 ?_
  refine wpAnyD_one (i:=42) (by kernel_rfl) rfl (by kernel_rfl) ?_
  go_simp
  generalize hW : World.alloc w29 _ = W30
  have hq : Blk W30 w29.heap.size #[Z 0] 3:=by rw [<- hW]; exact Blk.new w29 _ _
  have b30 : Below w29.heap.size w29 W30:=by rw [<- hW]; exact (Below.refl _ _).alloc (Nat.le_refl _) _
  have qS30 : Below w24.heap.size w24 W30:=qS29.trans (b30.mono qS29.size)
  refine ⟨qS30,?_⟩
  have hcall:=gints_any W30.heap.size (.slice za 1 zc) (.slice (some ⟨w29.heap.size,0,none⟩) 1 1) [0] [0] W30 (HNz.out.below qS30 (Nat.le_refl _) qS30.size) (nats_new hq)
  rw [beq_self_eq_true] at hcall
  have HCALL:=Lib.hid hcall
  clear hcall hq b30 hW
  refine wpAnyD_one (i:=43) (by kernel_rfl) rfl (by kernel_rfl) ?_
  go_simp
  refine HCALL.out.mono ?_
  clear HCALL
  rintro e w31 ⟨rfl,kk,hkk⟩
  have qS31 : Below w24.heap.size w24 w31:=by rw [hkk]; exact below_drewN2 qS30 kk
  clear hkk
  refine ⟨qS31,?_⟩
  refine wpAnyD_tpX (i:=44) (v:=.bool true) (some 173) rfl rfl qS31 ?_
  refine wpAnyD_tpX (i:=45) (v:=.bool true) (some 174) rfl rfl qS31 ?_
  refine wpAnyD_tpX (i:=46) (v:=.slice ua 0 uc) (some 175) rfl rfl qS31 ?_
  refine wpAnyD_tpX (i:=47) (v:=.int .i64 0) (some 176) rfl rfl qS31 ?_
  refine wpAnyD_tpX (i:=48) (v:=.bool true) (some 177) rfl rfl qS31 ?_
  refine wpAnyD_tpX (i:=49) (v:=.bool true) (some 178) rfl rfl qS31 ?_
  go_simp
  refine wpAnyD_tpX (i:=50) (v:=.bool true) (some 0) rfl rfl qS31 ?_
  refine wpAnyD_done (by kernel_rfl) ?_ _
  have hfin : Below T w w31:=HBT.out.trans (qS31.mono hTc)
  have HFIN:=Lib.hid hfin
  clear hfin
  go_simp
  go_wp2_with fail
  go_ret
  exact ⟨rfl,HFIN.out⟩
end Go.Proofs.YtlidpghnlloinaaGreatDoor
