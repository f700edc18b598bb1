/- Contracts and plain laws, several texts in one (DlAw). No conditions beyond those stated. -/
import Derived.Test.YtlldjmagbjjeoaaGreatDoorPk41
set_option maxRecDepth 100000
set_option maxHeartbeats 40000000
namespace Go.Proofs.YtlldjmagbjjeoaaGreatDoor
open Go.RowKit
set_option linter.unusedVariables false
theorem zq7 (K:Nat) (w:World) (hK:K<=w.heap.size) (In:Pe K w):Calls Tryz.prog 5 #[] w fun e w'=>e=.returned (.bool true)/\Below w.heap.size w w':=by
 have hl:Calls Tryz.prog 13 #[.int .i64 60] w _:=qoe 60 (by decide) (by decide) w;obtain⟨T,hT⟩:=Ae w.heap.size;have HT:=Aa hT;rw[hT]at hl hK ⊢;have HL:=Aa hl;have Rl:=Aa In;clear hl hT In;go_enter Tryz.func5,Tryz.ntmps5
 go_wp2_with fail
 refine HL.out.mono ?_;clear HL;rintro e w1 ⟨b,s1,s2,rfl,qz6,oH,Mr,Bp⟩;obtain⟨X1,N1⟩:∃ X:Xv,X=opX 13 ⟨some ⟨b,0,none⟩,2,2⟩:=⟨_,rfl⟩;have Iw:=Aa N1;clear N1;obtain⟨B1,qlw⟩:∃ B,w1.heap.size=B:=⟨_,rfl⟩
 have zle:T<=B1:=by have := Bp.size;have := HT.out;omega
 have zdr:b<B1:=by rw[<- qlw];exact oH.lt
 have zZ:∀ u∈(opX 13 ⟨some ⟨b,0,none⟩,2,2⟩).cells,u.oneCell'=true:=by simp[Value.oneCell']
 have qtm:=Aa zZ;have Th:=Aa Mr;have E8:=Aa oH;have qu6:=Aa Bp;have Bi:=Aa qlw;clear zZ Mr oH Bp
 go_upto_region 2 with(refine Iu rfl 43 (.tmp 1) (.tmp 22) rfl (opX 13 ⟨some ⟨b,0,none⟩,2,2⟩).cells _ Bm rfl qtm.out w1.heap.size rfl rfl rfl ?_)
 generalize Ax:World.alloc w1 _=W2
 have q1:Blk W2 B1 X1.cells 43:=by rw[<- Ax,<- Bi.out,Iw.out];exact Blk.new w1 _ _
 have b12:Below B1 w1 W2:=by rw[<- Ax,<- Bi.out];exact Af _ _
 have z2:W2.heap.size=B1+1:=by rw[<- Ax,World.size_alloc,Bi.out]
 have r1:W2.rangeAt B1 0 (opX 13 ⟨some ⟨b,0,none⟩,2,2⟩).cells.toList:=by have := q1.range;rwa[Iw.out]at this
 have Bc:=Aa q1;have fV:=Aa b12;have Z2:=Aa z2;clear Ax q1 b12 z2
 go_upto_region 3 with(first
  | (refine wpList_load_mid rfl 43 (.tmp 1) rfl B1 0 rfl (opX 13 ⟨some ⟨b,0,none⟩,2,2⟩).cells.toList _ r1 Tryz.underlying43 rfl Bm ?_)
  | (refine Iu rfl 43 (.tmp 2) (.tmp 23) rfl (opX 13 ⟨some ⟨b,0,none⟩,2,2⟩).cells _ Bm rfl qtm.out W2.heap.size rfl rfl rfl ?_))
 generalize Cn:World.alloc W2 _=W3
 have q2:Blk W3 (B1+1) X1.cells 43:=by rw[<- Cn,<- Z2.out,Iw.out];exact Blk.new W2 _ _
 have b23:Below (B1+1) W2 W3:=by rw[<- Cn,<- Z2.out];exact Af _ _
 have z3:W3.heap.size=B1+2:=by rw[<- Cn,World.size_alloc,Z2.out]
 try simp only[Z2.out]
 have b13:Below B1 w1 W3:=fV.out.trans (b23.mono (by omega));have qb3:=E8.out.below b13 zdr;have q13:=Bc.out.below b23 (by omega);obtain⟨W3d,oE⟩:∃ W,W3.drew=W:=⟨_,rfl⟩
 have b13d:Below B1 w1 W3d:=by rw[<- oE];exact Er b13
 have z3d:W3d.heap.size=B1+2:=by rw[<- oE];exact z3
 have qS:(fun W':World=>Blk W' B1 X1.cells 43/\Blk W' b (Cq Vy (Ch 2 false s1 false s2 0)) 43) W3d:=by rw[<- oE];exact⟨q13,qb3⟩
 have q2d:Blk W3d (B1+1) X1.cells 43:=by rw[<- oE];exact q2
 have cT:=Aa b13d;have Z3:=Aa z3d;have Bw:=Aa q2d;refine Fz (fun W':World=>Blk W' B1 X1.cells 43/\Blk W' b (Cq Vy (Ch 2 false s1 false s2 0)) 43) [] (by kernel_rfl) ?_;rw[oE]
 have qms:∀ W',Blk W' B1 X1.cells 43->W'.cell? ⟨B1,8,none⟩=some (.slice (some ⟨b,0,none⟩) 2 2):=fun W' h=>h.at (by rw[Iw.out];rfl)
 have Ux:=Aa qms;clear Cn q2 b23 z3 b13 qb3 q13 oE b13d z3d r1 q2d qms;refine Aw (i:=0) (v:=.pointer (some ⟨B1,8,none⟩)) (some 24) rfl rfl qS ?_;refine Dx (i:=1) (v:=.slice (some ⟨b,0,none⟩) 2 2) (some 25) rfl rfl (.inl ⟨by kernel_rfl,fun W' hS=>by have d0:=Ux.out W' hS.1;go_simp⟩) qS ?_;refine Aw (i:=2) (v:=.pointer (some ⟨b,9,none⟩)) (some 26) rfl rfl qS ?_;refine Dx (i:=3) (v:=(Ch 2 false s1 false s2 0).agg) (some 27) rfl rfl (yieldsIf_load_mid (by kernel_rfl) 43 (.tmp 26) rfl b 9 (by first | rfl | go_simp) (Ch 2 false s1 false s2 0).cells.toList _ (fun W' hS=>zl1 hS.2) Tryz.underlying43 rfl Bm) qS ?_;refine Aw (i:=4) (v:=.pointer (some ⟨B1,8,none⟩)) (some 28) rfl rfl qS ?_;refine Dx (i:=5) (v:=.slice (some ⟨b,0,none⟩) 2 2) (some 29) rfl rfl (.inl ⟨by kernel_rfl,fun W' hS=>by have d0:=Ux.out W' hS.1;go_simp⟩) qS ?_;refine Aw (i:=6) (v:=.pointer (some ⟨b,0,none⟩)) (some 30) rfl rfl qS ?_;refine Dx (i:=7) (v:=Vy.agg) (some 31) rfl rfl (yieldsIf_load_mid (by kernel_rfl) 43 (.tmp 30) rfl b 0 (by first | rfl | go_simp) Vy.cells.toList _ (fun W' hS=>zfm hS.2) Tryz.underlying43 rfl Bm) qS ?_;refine Ap (i:=8) rfl ?_;go_simp
 try simp only[Z3.out]
 generalize Fc:World.alloc W3d _=W4
 have b4:Below (B1+2) W3d W4:=by rw[<- Fc,<- Z3.out];exact Af _ _
 have q4:Blk W4 (B1+2) (Cq (Ch 2 false s1 false s2 0) Vy) 43:=by rw[<- Fc,<- Z3.out];exact Blk.new W3d _ _
 have q24:=Bw.out.below b4 (by omega)
 have z4:W4.heap.size=B1+3:=by rw[<- Fc,World.size_alloc,Z3.out]
 have qS4:(fun W':World=>Blk W' B1 X1.cells 43/\Blk W' b (Cq Vy (Ch 2 false s1 false s2 0)) 43) W4:=⟨qS.1.below b4 (by omega),qS.2.below b4 (by omega)⟩;have Ei:=Aa b4;have Io:=Aa q4;have xX:=Aa q24;have Z4:=Aa z4;clear Fc b4 q4 q24 z4;refine⟨qS4,?_⟩;refine Aw (i:=9) (v:=.pointer (some ⟨B1+1,8,none⟩)) (some 33) rfl rfl qS4 ?_;have t0:W4.cell? ⟨B1+1,8,none⟩=some (.slice (some ⟨b,0,none⟩) 2 2):=xX.out.at (by rw[Iw.out];rfl);have t1:W4.frozen? ⟨B1+1,8,none⟩=false:=xX.out.free 8;refine Ap (i:=10) rfl ?_;go_simp
 generalize Ez:World.setCell W4 _ _=W5
 obtain⟨X2,U3⟩:∃ X:Xv,X=opX 13 ⟨some ⟨B1+2,0,none⟩,2,2⟩:=⟨_,rfl⟩;have Ym:=Aa U3;clear U3
 have b15:Below B1 w1 W5:=by rw[<- Ez];exact(cT.out.trans (Ei.out.mono (by omega))).setCell (p:=⟨B1+1,8,none⟩) (Nat.le_succ _) _
 have q25:Blk W5 (B1+1) X2.cells 43:=by
  rw[<- Ez];have := xX.out.set (i:=8) (.slice (some ⟨B1+2,0,none⟩) 2 2);rw[Iw.out]at this;rw[Ym.out];exact this
 have q15:Blk W5 B1 X1.cells 43:=by rw[<- Ez];exact qS4.1.other (by omega) _
 have qb5:Blk W5 b (Cq Vy (Ch 2 false s1 false s2 0)) 43:=by rw[<- Ez];exact qS4.2.other (by omega) _
 have q45:Blk W5 (B1+2) (Cq (Ch 2 false s1 false s2 0) Vy) 43:=by rw[<- Ez];exact Io.out.other (by omega) _
 have z5:W5.heap.size=B1+3:=by rw[<- Ez,<- Z4.out];simp[World.setCell]
 have nw:An T w1 W5:=An.of (by rw[Bi.out];exact b15);have vl5:=Th.out.move nw
 have x15:ExN T W5 (Cy 60) X1:=by rw[Iw.out];exact qzs (by omega) qb5 vl5
 have x25:ExN T W5 Ul X2:=by rw[Ym.out];exact I9 q45 (by omega) (tJ vl5) (qww _ _)
 have qaq:=Aa (And.intro q15 (And.intro q25 (And.intro qb5 (And.intro x15 (And.intro x25 vl5)))));have zb5:Hid (Below T w W5):=Aa (by have h1:=qu6.out;exact h1.trans (b15.mono zle));have Z5:=Aa z5;refine⟨⟨q15,qb5⟩,?_⟩
 have r15:W5.rangeAt B1 0 (opX 13 ⟨some ⟨b,0,none⟩,2,2⟩).cells.toList:=by have := q15.range;rwa[Iw.out]at this
 clear t0 t1 Ez b15 q25 q15 qb5 q45 z5 nw vl5 x15 x25 qS qS4 Ei Io xX Z4 Bw Z3 cT Ux Th Bc fV Z2 E8 qu6;refine Eo (by kernel_rfl) ?_ _;go_simp
 have xV:∀ u∈(opX 17 ⟨some ⟨W5.heap.size,0,none⟩,1,1⟩).cells,u.oneCell'=true:=by simp[Value.oneCell']
 have qt0:=Aa xV;clear xV
 go_upto_region 5 with(first
  | (refine wpList_load_mid rfl 43 (.tmp 1) rfl B1 0 rfl (opX 13 ⟨some ⟨b,0,none⟩,2,2⟩).cells.toList _ r15 Tryz.underlying43 rfl Bm ?_)
  | (refine Iu rfl 43 (.tmp 3) (.tmp 36) rfl (opX 17 ⟨some ⟨W5.heap.size,0,none⟩,1,1⟩).cells _ Bm rfl qt0.out (W5.heap.size+1) (by simp) rfl rfl ?_))
 generalize Fk:World.alloc (World.alloc W5 _) _=W6
 obtain⟨X3,bN⟩:∃ X:Xv,X=opX 17 ⟨some ⟨W5.heap.size,0,none⟩,1,1⟩:=⟨_,rfl⟩;have Rg:=Aa bN;clear bN
 have b56:Below W5.heap.size W5 W6:=by rw[<- Fk];exact(Af _ _).alloc (by simp) _
 have q6:Blk W6 W5.heap.size X1.cells 43:=by rw[<- Fk,Iw.out];exact(Blk.new W5 _ _).alloc _
 have q3:Blk W6 (W5.heap.size+1) X3.cells 43:=by
  rw[<- Fk,Rg.out];refine(?_:Blk ((W5.alloc (.cells (opX 13 ⟨some ⟨b,0,none⟩,2,2⟩).cells 43)).alloc (.cells (opX 17 ⟨some ⟨W5.heap.size,0,none⟩,1,1⟩).cells 43)) (W5.heap.size+1) _ _);have := Blk.new (W5.alloc (.cells (opX 13 ⟨some ⟨b,0,none⟩,2,2⟩).cells 43)) (opX 17 ⟨some ⟨W5.heap.size,0,none⟩,1,1⟩).cells 43;rwa[World.size_alloc]at this
 obtain⟨qg7,qe1,qi3,qmb,qzr,qnn⟩:=qaq.out
 have x36:ExN T W6 Wl X3:=by rw[Rg.out];exact qvl q6 (by have := Z5.out;omega) (qmb.move (An.of b56))
 have HE:=Aa (show AwE T W6 B1 (B1+1) (W5.heap.size+1) b X1 X2 X3 s1 s2 from⟨qg7.below b56 qg7.lt,qe1.below b56 qe1.lt,q3,qi3.below b56 qi3.lt,qmb.move (An.of b56),qzr.move (An.of b56),x36,qnn.move (An.of b56)⟩)
 have qnq:T<=W5.heap.size:=by have := Z5.out;omega
 have Fd:=Aa (zb5.out.trans (b56.mono qnq))
 have Eb:T<=W6.heap.size:=by have := b56.size;omega
 obtain⟨zb,hZ⟩:∃ z,W5.heap.size+1=z:=⟨_,rfl⟩;obtain⟨Y,hY⟩:=Ae W5.heap.size;rw[hZ]at HE ⊢;rw[hY]at Rg ⊢;clear Fk b56 q6 q3 qg7 qe1 qi3 qmb qzr qnn x36 qnq hZ hY qaq zb5 Z5 qt0 r15
 have r1:W6.rangeAt B1 0 (opX 13 ⟨some ⟨b,0,none⟩,2,2⟩).cells.toList:=by have := HE.out.q1.range;rwa[Iw.out]at this
 have r2:W6.rangeAt zb 0 (opX 17 ⟨some ⟨Y,0,none⟩,1,1⟩).cells.toList:=by have := HE.out.q3.range;rwa[Rg.out]at this
 go_wp2_with (first
  | (refine wpList_load_mid rfl 43 (.tmp 1) rfl B1 0 rfl (opX 13 ⟨some ⟨b,0,none⟩,2,2⟩).cells.toList _ r1 Tryz.underlying43 rfl Bm ?_)
  | (refine wpList_load_mid rfl 43 (.tmp 3) rfl zb 0 rfl (opX 17 ⟨some ⟨Y,0,none⟩,1,1⟩).cells.toList _ r2 Tryz.underlying43 rfl Bm ?_))
 clear r1 r2
 generalize hW:World.alloc W6 _=W7
 have q7:Blk W7 W6.heap.size (Cq X1 X3) 43:=by rw[<- hW,Iw.out,Rg.out];exact Blk.new W6 _ _
 have b7:Below W6.heap.size W6 W7:=by rw[<- hW];exact Af _ _
 clear hW;have HE:=Aa (HE.out.move b7);have Fd:=Aa (Fd.out.trans (b7.mono Eb));have Eb:T<=W7.heap.size:=Nat.le_trans Eb b7.size;have Ao:=qf9 W7 W6.heap.size X1 X3 (Cy 60) Wl Il q7 HE.out.x1.now HE.out.x3.now mB.1 mB.2.1 nU.1 nU.2.1 zcx Zx ((Rl.out.on (Fd.out.mono hK)).up (Nat.le_trans hK Eb));have Dl:=Aa Ao;clear Ao q7 b7;refine Dl.out.mono ?_;clear Dl;rintro e w8 ⟨⟨⟨aa,an,am⟩,⟨aa2,an2,am2⟩,⟨aa3,an3,am3⟩,ar⟩,rfl,Fo,Ey⟩;obtain⟨l1,l2,l3⟩:=Fo.now.lens;dsimp only at l1 l2 l3;have Jm:=Aa Fo;clear Fo;obtain rfl:an=1:=l1.trans (rfl);obtain rfl:an2=1:=l2.trans (by unfold stO;rw[qix];rfl);obtain rfl:an3=2:=l3.trans (by unfold stO;rw[qix];rfl);clear l1 l2 l3
 have Bd:∀ u∈(#[.slice aa 1 am,.slice aa2 1 am2,.slice aa3 2 am3,.int .i64 ar]:Array Value),u.oneCell'=true:=by simp[Value.oneCell']
 have Df:=Aa Bd;clear Bd;dsimp only[Dv.agg,Dv.cells,Sl.val];have HE:=Aa (HE.out.move Ey);have Fd:=Aa (Fd.out.trans (Ey.mono Eb));have Eb:T<=w8.heap.size:=Nat.le_trans Eb Ey.size;clear Ey
 go_upto_region 6 with(refine Iu rfl 31 (.tmp 4) (.tmp 42) rfl #[.slice aa 1 am,.slice aa2 1 am2,.slice aa3 2 am3,.int .i64 ar] _ cO rfl Df.out w8.heap.size rfl rfl rfl ?_)
 clear Df
 generalize hW:World.alloc w8 _=W9
 have b9:Below w8.heap.size w8 W9:=by rw[<- hW];exact Af _ _
 have Po:Blk W9 w8.heap.size #[.slice aa 1 am,.slice aa2 1 am2,.slice aa3 2 am3,.int .i64 ar] 31:=by rw[<- hW];exact Blk.new w8 _ _
 have Fy:=Aa Po;clear hW Po;have HE:=Aa (HE.out.move b9);have Fd:=Aa (Fd.out.trans (b9.mono Eb));have Eb:T<=W9.heap.size:=Nat.le_trans Eb b9.size;have Jm:=Aa (Jm.out.move b9);obtain⟨Da,qs6⟩:∃ D,w8.heap.size=D:=⟨_,rfl⟩;rw[qs6]at Fy ⊢;clear b9 qs6
 have r1:W9.rangeAt B1 0 (opX 13 ⟨some ⟨b,0,none⟩,2,2⟩).cells.toList:=by have := HE.out.q1.range;rwa[Iw.out]at this
 have r2:W9.rangeAt (B1+1) 0 (opX 13 ⟨some ⟨B1+2,0,none⟩,2,2⟩).cells.toList:=by have := HE.out.q2.range;rwa[Ym.out]at this
 go_wp2_with (first
  | (refine wpList_load_mid rfl 43 (.tmp 1) rfl B1 0 rfl (opX 13 ⟨some ⟨b,0,none⟩,2,2⟩).cells.toList _ r1 Tryz.underlying43 rfl Bm ?_)
  | (refine wpList_load_mid rfl 43 (.tmp 2) rfl (B1+1) 0 rfl (opX 13 ⟨some ⟨B1+2,0,none⟩,2,2⟩).cells.toList _ r2 Tryz.underlying43 rfl Bm ?_))
 clear r1 r2
 generalize hW:World.alloc W9 _=cE
 have q7:Blk cE W9.heap.size (Cq X1 X2) 43:=by rw[<- hW,Iw.out,Ym.out];exact Blk.new W9 _ _
 have b7:Below W9.heap.size W9 cE:=by rw[<- hW];exact Af _ _
 clear hW;have HE:=Aa (HE.out.move b7);have Fd:=Aa (Fd.out.trans (b7.mono Eb));have Fy:=Aa (Fy.out.below b7 Fy.out.lt);have Jm:=Aa (Jm.out.move b7);have Eb:T<=cE.heap.size:=Nat.le_trans Eb b7.size;have Ao:=qf9 cE W9.heap.size X1 X2 (Cy 60) Ul Il q7 HE.out.x1.now HE.out.x2.now mB.1 mB.2.2.1 nU.1 nU.2.2.1 zkm Zx ((Rl.out.on (Fd.out.mono hK)).up (Nat.le_trans hK Eb));have Dl:=Aa Ao;clear Ao q7 b7;refine Dl.out.mono ?_;clear Dl;rintro e w11 ⟨⟨⟨ba,bn,bm⟩,⟨ba2,bn2,bm2⟩,⟨ba3,bn3,bm3⟩,br⟩,rfl,Fo,Ey⟩;obtain⟨l1,l2,l3⟩:=Fo.now.lens;dsimp only at l1 l2 l3;have Lx:=Aa Fo;clear Fo;obtain rfl:bn=1:=l1.trans (rfl);clear l1 l2 l3
 have Bd:∀ u∈(#[.slice ba 1 bm,.slice ba2 bn2 bm2,.slice ba3 bn3 bm3,.int .i64 br]:Array Value),u.oneCell'=true:=by simp[Value.oneCell']
 have Df:=Aa Bd;clear Bd;dsimp only[Dv.agg,Dv.cells,Sl.val];have HE:=Aa (HE.out.move Ey);have Fd:=Aa (Fd.out.trans (Ey.mono Eb));have Fy:=Aa (Fy.out.below Ey Fy.out.lt);have Jm:=Aa (Jm.out.move Ey);have Eb:T<=w11.heap.size:=Nat.le_trans Eb Ey.size;clear Ey
 go_upto_region 7 with(refine Iu rfl 31 (.tmp 6) (.tmp 49) rfl #[.slice ba 1 bm,.slice ba2 bn2 bm2,.slice ba3 bn3 bm3,.int .i64 br] _ cO rfl Df.out w11.heap.size rfl rfl rfl ?_)
 clear Df
 generalize hW:World.alloc w11 _=Jp
 have b9:Below w11.heap.size w11 Jp:=by rw[<- hW];exact Af _ _
 have Po:Blk Jp w11.heap.size #[.slice ba 1 bm,.slice ba2 bn2 bm2,.slice ba3 bn3 bm3,.int .i64 br] 31:=by rw[<- hW];exact Blk.new w11 _ _
 have If:=Aa Po;clear hW Po;have HE:=Aa (HE.out.move b9);have Fd:=Aa (Fd.out.trans (b9.mono Eb));have Fy:=Aa (Fy.out.below b9 Fy.out.lt);have Jm:=Aa (Jm.out.move b9);have Eb:T<=Jp.heap.size:=Nat.le_trans Eb b9.size;have Lx:=Aa (Lx.out.move b9);obtain⟨Db,qy4⟩:∃ D,w11.heap.size=D:=⟨_,rfl⟩;rw[qy4]at If ⊢;clear b9 qy4
 have r1:Jp.rangeAt B1 0 (opX 13 ⟨some ⟨b,0,none⟩,2,2⟩).cells.toList:=by have := HE.out.q1.range;rwa[Iw.out]at this
 have q1:=HE.out.q1
 have Nz:Hid (∀ W',Below Jp.heap.size Jp W'->W'.rangeAt B1 0 (opX 13 ⟨some ⟨b,0,none⟩,2,2⟩).cells.toList):=Aa fun W' hb=>by have := (q1.below hb q1.lt).range;rwa[Iw.out]at this
 clear r1 q1
 go_upto_region 7 with fail
 have qS:(fun W'=>Below Jp.heap.size Jp W') Jp.drew:=Er (Below.refl _ _);refine Fz (fun W'=>Below Jp.heap.size Jp W') [] (by kernel_rfl) ?_;refine Dx (i:=0) (v:=(opX 13 ⟨some ⟨b,0,none⟩,2,2⟩).agg) (some 52) rfl rfl (yieldsIf_load_mid (by kernel_rfl) 43 (.tmp 1) rfl B1 0 (by first | rfl | go_simp) (opX 13 ⟨some ⟨b,0,none⟩,2,2⟩).cells.toList _ (fun W' hS=>Nz.out W' hS) Tryz.underlying43 rfl Bm) qS ?_;go_simp
 refine ztm (c1:=1) (c2:=2) (c3:=3) (i:=7) (L0:=?L0) (L1:=?L1) (A:=?A) (some 53) (some 54) (some 55) (some 8) 3 31 #[.slice none 0 0,.slice none 0 0,.slice none 0 0,.int .i64 0]
  (fun _ W=>Below Jp.heap.size Jp W)
  (fun v _ W=>Below Jp.heap.size Jp W/\∃ X:Xv,v=X.agg/\ExN Jp.heap.size W (Cy 65) X)
  (fun v v' _ W=>Below Jp.heap.size Jp W/\∃ (X:Xv) (c:Nat),v'=.slice (some ⟨c,0,none⟩) 2 2/\Blk W c (Cq X1 X) 43/\ExN Jp.heap.size W (Cy 65) X)
  (fun v v' v'' Fp W=>Below Jp.heap.size Jp W/\∃ (y:Dv) (L:Nat) (V:World),v''=.tuple #[y.agg,.int .i64 0]/\Jp.heap.size<=L/\DgN L V y [Ks] [Cy 60,Cy 65]/\An L V W/\∀ b,L<=b->b<V.heap.size->Fp b)
  (by kernel_rfl) (by kernel_rfl) (by kernel_rfl) (by kernel_rfl) (by kernel_rfl) (by kernel_rfl) ?hrn ?hL rfl rfl (fun _=>rfl) (by decide) rfl rfl (fun _=>rfl) (by decide) rfl rfl (fun _=>rfl) (by decide) (fun W W' h1 h2=>h1.trans (h2.mono h1.size)) qS rfl rfl (fun _=>rfl) (fun a W KK hK=>by go_simp;exact hK) (fun _ W W' h1 h2=>h1.trans (h2.mono h1.size)) ?st1 ?st2 ?st3 ?step1 ?step2 ?step3 ?htk0 ?htk1 ?hA qS ?h
 case htk0 | htk1 =>
  intro v1 v2 v p Fp W' hF hS H
  refine Aw (i:=4) (v:=v) (some 51) rfl rfl hS ?_;refine Dx (i:=5) (v:=mN v 0) (some 56) rfl rfl (.inl ⟨by kernel_rfl,fun W' hS=>by obtain⟨_,y,L,V,rfl,_⟩:=hF;go_simp<;>rfl⟩) hS ?_;refine Dx (i:=6) (v:=mN v 1) (some 57) rfl rfl (.inl ⟨by kernel_rfl,fun W' hS=>by obtain⟨_,y,L,V,rfl,_⟩:=hF;go_simp<;>rfl⟩) hS ?_;exact H
 case hrn=>kernel_rfl
 case hL=>rfl
 case hA=>intro v1 v2 v p q;exact Vc (by decide) (Vc (by decide) (Vc (by decide) (Vc (by decide) (Vc (by decide) (Vc (by decide) (qfg _ _ _ _))))))
 case st1 =>
  rintro v Fp W W' ⟨h1,X,rfl,h2⟩ hb;exact⟨h1.trans (hb.mono h1.size),X,rfl,h2.move (An.of hb)⟩
 case st2 =>
  rintro v v' Fp W W' ⟨h1,X,c,rfl,h2,h3⟩ hb;exact⟨h1.trans (hb.mono h1.size),X,c,rfl,h2.below hb h2.lt,h3.move (An.of hb)⟩
 case st3 =>
  rintro v v' v'' Fp W W' ⟨h1,y,L,V,rfl,h2,h3,h4,h5⟩ hb;exact⟨h1.trans (hb.mono h1.size),y,L,V,rfl,h2,h3,h4.trans (An.of hb),h5⟩
 case step1 =>
  intro Fp W p hF KK Hb
  have hl:Calls Tryz.prog 13 #[.int .i64 65] W _:=zui 65 (by decide) (by decide) W;go_simp
  refine hl.mono ?_;rintro en w' ⟨X,rfl,hX,hb⟩;exact Hb _ (fun _=>False) w' ⟨hF.trans (hb.mono hF.size),X,rfl,hX.mono hF.size⟩ (fun _ h=>h.elim) hb
 case step2 =>
  rintro v1 Fp W p ⟨hF,X,rfl,hX⟩ KK Hb;have hb:Below W.heap.size W (W.alloc (.cells (Cq X1 X) 43)):=Af _ _;have hk:=Hb (.slice (some ⟨W.heap.size,0,none⟩) 2 2) (fun _=>False) (W.alloc (.cells (Cq X1 X) 43)) ⟨hF.trans (hb.mono hF.size),X,W.heap.size,rfl,Blk.new W _ _,hX.move (An.of hb)⟩ (fun _ h=>h.elim) hb;rw[Iw.out]at hk;clear Hb hb hX;go_simp
  exact hk
 case step3 =>
  rintro v1 v2 Fp W p ⟨hF,X,c,rfl,hq,hX⟩ KK Hb;have hE:=HE.out.move hF;have Ao:=qf9 W c X1 X (Cy 60) (Cy 65) Ks hq hE.x1.now hX.now mB.1 mB.2.2.2 nU.1 nU.2.2.2 zm6 X5 ((Rl.out.on ((Fd.out.trans (hF.mono Eb)).mono hK)).up (Nat.le_trans hK (Nat.le_trans Eb hF.size)));have Dl:=Aa Ao;clear Ao hE hq hX;go_simp
  refine Dl.out.mono ?_;rintro en w' ⟨y,rfl,Fo,hb⟩;exact Hb _ (Btw W.heap.size w'.heap.size) w' ⟨hF.trans (hb.mono hF.size),y,W.heap.size,w',rfl,hF.size,Fo,An.refl _ _,fun b h1 h2=>⟨h1,h2⟩⟩ (fun _ h=>.inr h) hb
 case h =>
  rintro v1 v2 v3 Fp k qk7 ⟨hB,⟨⟨ca,cn,cm⟩,⟨ca2,cn2,cm2⟩,⟨ca3,cn3,cm3⟩,cr⟩,L,V,rfl,hL,Fo,Ff,qzy⟩ Oz _ hq hk Oi
  have Bd:∀ u∈(#[.slice ca cn cm,.slice ca2 cn2 cm2,.slice ca3 cn3 cm3,.int .i64 cr]:Array Value),u.oneCell'=true:=by simp[Value.oneCell']
  have Df:=Aa Bd
  have A8:k<L\/V.heap.size<=k:=by
   by_cases h1:k<L
   ·exact .inl h1
   ·by_cases h2:k<V.heap.size
    ·exact absurd (qzy k (by omega) h2) Oz
    ·exact .inr (by omega)
  have Ig:=Aa (And.intro Fo (And.intro Ff A8));have Yp:=Aa hq;have Xi:=Aa Oi;have qyh:=Aa hk;clear Bd Fo Ff qzy Oz hq A8 Oi hk;go_simp
  refine Ap (i:=8) rfl ?_;refine eH 31 31 (.tmp 8) (.tmp 56) rfl #[.slice ca cn cm,.slice ca2 cn2 cm2,.slice ca3 cn3 cm3,.int .i64 cr] _ k Yp.out cO rfl Df.out rfl rfl ?_;intro yJ t1 t2 t3 t4
  have b15:Below Jp.heap.size Jp yJ:=hB.trans (t2 _ qyh.out);refine⟨fun _=>b15,?_⟩;refine Dx (i:=9) (v:=.int .i64 0) (some 9) rfl rfl (.inl ⟨by kernel_rfl,fun W' hS=>by go_simp<;>rfl⟩) b15 ?_;refine Eo (by kernel_rfl) ?_ _;obtain⟨Fo,Ff,A8⟩:=Ig.out;have qxq:=Ff.puts t3 A8
  have Ow:Hid (DgN L yJ ⟨⟨ca,cn,cm⟩,⟨ca2,cn2,cm2⟩,⟨ca3,cn3,cm3⟩,cr⟩ [Ks] [Cy 60,Cy 65]):=Aa fun X hx=>Fo X (qxq.trans hx)
  have Jc:=Aa t1;clear Fo Ff A8 qxq t1 t2 t3 t4 Ig Yp Xi qyh Df hB Nz;have HE:=Aa (HE.out.move b15);have Fd:=Aa (Fd.out.trans (b15.mono Eb));have Fy:=Aa (Fy.out.below b15 Fy.out.lt);have Jm:=Aa (Jm.out.move b15);have If:=Aa (If.out.below b15 If.out.lt);have Lx:=Aa (Lx.out.move b15);have Eb:T<=yJ.heap.size:=Nat.le_trans Eb b15.size;clear b15;go_simp
  have Ao:=zhq yJ ((Rl.out.on (Fd.out.mono hK)).up (Nat.le_trans hK Eb));have Dl:=Aa Ao;clear Ao;go_wp2_with fail
  refine Dl.out.mono ?_;clear Dl;rintro e w16 ⟨⟨⟨da,dn,dm⟩,⟨da2,dn2,dm2⟩,⟨da3,dn3,dm3⟩,dr⟩,rfl,Fo,Ey⟩;obtain⟨l1,l2,l3⟩:=Fo.now.lens;dsimp only at l1 l2 l3;have Pr:=Aa Fo;clear Fo;obtain rfl:dn=0:=l1.trans (rfl);clear l1 l2 l3
  have Bd:∀ u∈(#[.slice da 0 dm,.slice da2 dn2 dm2,.slice da3 dn3 dm3,.int .i64 dr]:Array Value),u.oneCell'=true:=by simp[Value.oneCell']
  have Df:=Aa Bd;clear Bd;dsimp only[Dv.agg,Dv.cells,Sl.val];have HE:=Aa (HE.out.move Ey);have Fd:=Aa (Fd.out.trans (Ey.mono Eb));have Fy:=Aa (Fy.out.below Ey Fy.out.lt);have Jm:=Aa (Jm.out.move Ey);have If:=Aa (If.out.below Ey If.out.lt);have Lx:=Aa (Lx.out.move Ey);have Jc:=Aa (Jc.out.below Ey Jc.out.lt);have Ow:=Aa (Ow.out.move Ey);have Eb:T<=w16.heap.size:=Nat.le_trans Eb Ey.size;clear Ey
  go_upto_region 9 with(refine Iu rfl 31 (.tmp 10) (.tmp 60) rfl #[.slice da 0 dm,.slice da2 dn2 dm2,.slice da3 dn3 dm3,.int .i64 dr] _ cO rfl Df.out w16.heap.size rfl rfl rfl ?_)
  clear Df
  generalize hW:World.alloc w16 _=W17
  have b9:Below w16.heap.size w16 W17:=by rw[<- hW];exact Af _ _
  have Po:Blk W17 w16.heap.size #[.slice da 0 dm,.slice da2 dn2 dm2,.slice da3 dn3 dm3,.int .i64 dr] 31:=by rw[<- hW];exact Blk.new w16 _ _
  have Ku:=Aa Po;clear hW Po;have HE:=Aa (HE.out.move b9);have Fd:=Aa (Fd.out.trans (b9.mono Eb));have Fy:=Aa (Fy.out.below b9 Fy.out.lt);have Jm:=Aa (Jm.out.move b9);have If:=Aa (If.out.below b9 If.out.lt);have Lx:=Aa (Lx.out.move b9);have Jc:=Aa (Jc.out.below b9 Jc.out.lt);have Ow:=Aa (Ow.out.move b9);have Eb:T<=W17.heap.size:=Nat.le_trans Eb b9.size;have Pr:=Aa (Pr.out.move b9);obtain⟨Dd,qsm⟩:∃ D,w16.heap.size=D:=⟨_,rfl⟩;rw[qsm]at Ku ⊢;clear b9 qsm;obtain⟨a0,a1,a2,a3⟩:=Fy.out.four;obtain⟨d0,d1,d2,d3⟩:=Ku.out.four;have Ao:=qxu W17.heap.size ⟨⟨aa,1,am⟩,⟨aa2,1,am2⟩,⟨aa3,2,am3⟩,ar⟩ [Il] (stO [Il] [Cy 60,Wl]) (rtO [Il] [Cy 60,Wl]) W17 Jm.out.now (qX _ Zx) Zx.good Zx.pc (Ab _);dsimp only[Dv.agg,Dv.cells,Sl.val]at Ao;have Dl:=Aa Ao;clear Ao;go_wp2_with fail
  refine Dl.out.mono ?_;clear Dl a0 a1 a2 a3 d0 d1 d2 d3;rintro e w18 ⟨⟨r,rfl,hr⟩,B6⟩;obtain rfl:r=true:=hr.2 znl;clear hr;have HE:=Aa (HE.out.move B6);have Fd:=Aa (Fd.out.trans (B6.mono Eb));have Fy:=Aa (Fy.out.below B6 Fy.out.lt);have Jm:=Aa (Jm.out.move B6);have If:=Aa (If.out.below B6 If.out.lt);have Lx:=Aa (Lx.out.move B6);have Jc:=Aa (Jc.out.below B6 Jc.out.lt);have Ow:=Aa (Ow.out.move B6);have Ku:=Aa (Ku.out.below B6 Ku.out.lt);have Pr:=Aa (Pr.out.move B6);have Eb:T<=w18.heap.size:=Nat.le_trans Eb B6.size;clear B6;obtain⟨d0,d1,d2,d3⟩:=Ku.out.four;have Ao:=qxu w18.heap.size ⟨⟨da,0,dm⟩,⟨da2,dn2,dm2⟩,⟨da3,dn3,dm3⟩,dr⟩ [] (stO [] []) (rtO [] []) w18 Pr.out.now qn7 (fun s hs=>by cases hs) (fun p hp=>by cases hp) (Ab _);dsimp only[Dv.agg,Dv.cells,Sl.val]at Ao;have Dl:=Aa Ao;clear Ao;go_wp2_with fail
  refine Dl.out.mono ?_;clear Dl d0 d1 d2 d3;rintro e w19 ⟨⟨r,rfl,hr⟩,Zp⟩
  obtain rfl:r=false:=by
   cases r with
   | false=>rfl
   | true=>exact absurd zf5 (hr.1 rfl)
  clear hr;have HE:=Aa (HE.out.move Zp);have Fd:=Aa (Fd.out.trans (Zp.mono Eb));have Fy:=Aa (Fy.out.below Zp Fy.out.lt);have Jm:=Aa (Jm.out.move Zp);have If:=Aa (If.out.below Zp If.out.lt);have Lx:=Aa (Lx.out.move Zp);have Jc:=Aa (Jc.out.below Zp Jc.out.lt);have Ow:=Aa (Ow.out.move Zp);have Ku:=Aa (Ku.out.below Zp Ku.out.lt);have Pr:=Aa (Pr.out.move Zp);have Eb:T<=w19.heap.size:=Nat.le_trans Eb Zp.size;clear Zp;obtain⟨d0,d1,d2,d3⟩:=Ku.out.four;obtain⟨b0,b1,b2,b3⟩:=If.out.four;have Ao:=qe8 w19.heap.size ⟨⟨ba,1,bm⟩,⟨ba2,bn2,bm2⟩,⟨ba3,bn3,bm3⟩,br⟩ [Il] (stO [Il] [Cy 60,Ul]) (rtO [Il] [Cy 60,Ul]) w19 Lx.out.now (qX _ Zx) Zx.good Zx.pc (Ab _);dsimp only[Dv.agg,Dv.cells,Sl.val]at Ao;have Dl:=Aa Ao;clear Ao;go_wp2_with fail
  refine Dl.out.mono ?_;clear Dl b0 b1 b2 b3 d0 d1 d2 d3;rintro e w20 ⟨Qn,Bg⟩;obtain⟨xv,rfl,Av⟩:=zop Qn;obtain⟨xa,xc,Mf,_,_⟩:=Av.form;have Mf:xv=.slice xa 1 xc:=Mf;subst Mf;have HE:=Aa (HE.out.move Bg);have Fd:=Aa (Fd.out.trans (Bg.mono Eb));have Fy:=Aa (Fy.out.below Bg Fy.out.lt);have Jm:=Aa (Jm.out.move Bg);have If:=Aa (If.out.below Bg If.out.lt);have Lx:=Aa (Lx.out.move Bg);have Jc:=Aa (Jc.out.below Bg Jc.out.lt);have Ow:=Aa (Ow.out.move Bg);have Ku:=Aa (Ku.out.below Bg Ku.out.lt);have Pr:=Aa (Pr.out.move Bg);have Eb:T<=w20.heap.size:=Nat.le_trans Eb Bg.size;have Q3:=Aa Av.nats;clear Qn Bg Av;obtain⟨c0,c1,c2,c3⟩:=Jc.out.four;have Ao:=qe8 w20.heap.size ⟨⟨ca,cn,cm⟩,⟨ca2,cn2,cm2⟩,⟨ca3,cn3,cm3⟩,cr⟩ [Ks] (stO [Ks] [Cy 60,Cy 65]) (rtO [Ks] [Cy 60,Cy 65]) w20 Ow.out.now (qX _ X5) X5.good X5.pc (Ab _);dsimp only[Dv.agg,Dv.cells,Sl.val]at Ao;have Dl:=Aa Ao;clear Ao;go_wp2_with fail
  refine Dl.out.mono ?_;clear Dl c0 c1 c2 c3;rintro e w21 ⟨Qn,Bg⟩;obtain⟨yv,rfl,Av⟩:=zh7 Qn;obtain⟨ya,yc,Mf,_,_⟩:=Av.form;have Mf:yv=.slice ya 1 yc:=Mf;subst Mf;have HE:=Aa (HE.out.move Bg);have Fd:=Aa (Fd.out.trans (Bg.mono Eb));have Fy:=Aa (Fy.out.below Bg Fy.out.lt);have Jm:=Aa (Jm.out.move Bg);have If:=Aa (If.out.below Bg If.out.lt);have Lx:=Aa (Lx.out.move Bg);have Jc:=Aa (Jc.out.below Bg Jc.out.lt);have Ow:=Aa (Ow.out.move Bg);have Ku:=Aa (Ku.out.below Bg Ku.out.lt);have Pr:=Aa (Pr.out.move Bg);have Eb:T<=w21.heap.size:=Nat.le_trans Eb Bg.size;have Q3:=Aa (Q3.out.below Bg (Ab _) Bg.size);have iP:=Aa Av.nats;clear Qn Bg Av;obtain⟨c0,c1,c2,c3⟩:=Jc.out.four;have Ao:=zj3 w21.heap.size ⟨⟨ca,cn,cm⟩,⟨ca2,cn2,cm2⟩,⟨ca3,cn3,cm3⟩,cr⟩ [Ks] (stO [Ks] [Cy 60,Cy 65]) (rtO [Ks] [Cy 60,Cy 65]) w21 Ow.out.now (qX _ X5) X5.good X5.pc (Ab _);dsimp only[Dv.agg,Dv.cells,Sl.val]at Ao;have Dl:=Aa Ao;clear Ao;go_wp2_with fail
  refine Dl.out.mono ?_;clear Dl c0 c1 c2 c3;rintro e w22 ⟨Qn,Bg⟩;obtain⟨zv,rfl,Av⟩:=ztu Qn;obtain⟨za,zc,Mf,_,_⟩:=Av.form;have Mf:zv=.slice za 1 zc:=Mf;subst Mf;have HE:=Aa (HE.out.move Bg);have Fd:=Aa (Fd.out.trans (Bg.mono Eb));have Fy:=Aa (Fy.out.below Bg Fy.out.lt);have Jm:=Aa (Jm.out.move Bg);have If:=Aa (If.out.below Bg If.out.lt);have Lx:=Aa (Lx.out.move Bg);have Jc:=Aa (Jc.out.below Bg Jc.out.lt);have Ow:=Aa (Ow.out.move Bg);have Ku:=Aa (Ku.out.below Bg Ku.out.lt);have Pr:=Aa (Pr.out.move Bg);have Eb:T<=w22.heap.size:=Nat.le_trans Eb Bg.size;have Q3:=Aa (Q3.out.below Bg (Ab _) Bg.size);have iP:=Aa (iP.out.below Bg (Ab _) Bg.size);have qO:=Aa Av.nats;clear Qn Bg Av;obtain⟨d0,d1,d2,d3⟩:=Ku.out.four;have Ao:=qe8 w22.heap.size ⟨⟨da,0,dm⟩,⟨da2,dn2,dm2⟩,⟨da3,dn3,dm3⟩,dr⟩ [] (stO [] []) (rtO [] []) w22 Pr.out.now qn7 (fun s hs=>by cases hs) (fun p hp=>by cases hp) (Ab _);dsimp only[Dv.agg,Dv.cells,Sl.val]at Ao;have Dl:=Aa Ao;clear Ao;go_wp2_with fail
  refine Dl.out.mono ?_;clear Dl d0 d1 d2 d3;rintro e w23 ⟨Qn,Bg⟩;obtain⟨uv,rfl,Av⟩:=ziq Qn;obtain⟨ua,uc,Mf,_,_⟩:=Av.form;have Mf:uv=.slice ua 0 uc:=Mf;subst Mf;have HE:=Aa (HE.out.move Bg);have Fd:=Aa (Fd.out.trans (Bg.mono Eb));have Fy:=Aa (Fy.out.below Bg Fy.out.lt);have Jm:=Aa (Jm.out.move Bg);have If:=Aa (If.out.below Bg If.out.lt);have Lx:=Aa (Lx.out.move Bg);have Jc:=Aa (Jc.out.below Bg Jc.out.lt);have Ow:=Aa (Ow.out.move Bg);have Ku:=Aa (Ku.out.below Bg Ku.out.lt);have Pr:=Aa (Pr.out.move Bg);have Eb:T<=w23.heap.size:=Nat.le_trans Eb Bg.size;have Q3:=Aa (Q3.out.below Bg (Ab _) Bg.size);have iP:=Aa (iP.out.below Bg (Ab _) Bg.size);have qO:=Aa (qO.out.below Bg (Ab _) Bg.size);have qtr:=Aa Av.nats;clear Qn Bg Av;obtain⟨b0,b1,b2,b3⟩:=If.out.four
  have Ao:=qqx w23.heap.size ⟨⟨ba,1,bm⟩,⟨ba2,bn2,bm2⟩,⟨ba3,bn3,bm3⟩,br⟩ [Il] (stO [Il] [Cy 60,Ul]) (rtO [Il] [Cy 60,Ul]) (.slice xa 1 xc) [1] (fun _=>wV 2 60) w23 Lx.out.now (qX _ Zx) Zx.good Q3.out (Cu.cons (by rw[fZ];simp) Cu.nil) (Ab _) (fun i s c y W hs hc hx=>by
   rcases i with _ | i
   ·cases hs
    cases hc
    exact qwa W.heap.size Il y 1 W hx (Ab _) qlu qtl rfl (by kernel_rfl) rfl
   ·cases hs)
  dsimp only[Dv.agg,Dv.cells,Sl.val]at Ao;have Dl:=Aa Ao;clear Ao;go_wp2_with fail
  refine Dl.out.mono ?_;clear Dl b0 b1 b2 b3;rintro e w24 ⟨vv,us,F,rfl,Qq,Bg⟩;obtain⟨vb,vo,vc,z,rfl,qQ,eW,eK⟩:=zhw Qq;have HE:=Aa (HE.out.move Bg);have Fd:=Aa (Fd.out.trans (Bg.mono Eb));have Fy:=Aa (Fy.out.below Bg Fy.out.lt);have Jm:=Aa (Jm.out.move Bg);have If:=Aa (If.out.below Bg If.out.lt);have Lx:=Aa (Lx.out.move Bg);have Jc:=Aa (Jc.out.below Bg Jc.out.lt);have Ow:=Aa (Ow.out.move Bg);have Ku:=Aa (Ku.out.below Bg Ku.out.lt);have Pr:=Aa (Pr.out.move Bg);have Eb:T<=w24.heap.size:=Nat.le_trans Eb Bg.size;have Q3:=Aa (Q3.out.below Bg (Ab _) Bg.size);have iP:=Aa (iP.out.below Bg (Ab _) Bg.size);have qO:=Aa (qO.out.below Bg (Ab _) Bg.size);have qtr:=Aa (qtr.out.below Bg (Ab _) Bg.size);have kE:=Aa qQ;have zoo:=Aa eW;clear Bg Qq qQ eW Fy If Jc Ku Jm Lx Ow Pr
  go_upto_region 16 with fail
  have qS:(fun W'=>Below w24.heap.size w24 W') w24.drew:=Er (Below.refl _ _);have q1:=HE.out.q1;have qb:=HE.out.qb
  have Ux:Hid (∀ W',Below w24.heap.size w24 W'->W'.cell? ⟨B1,8,none⟩=some (.slice (some ⟨b,0,none⟩) 2 2)):=Aa fun W' hb=>(q1.below hb q1.lt).at (by rw[Iw.out];rfl)
  have zpn:Hid (∀ W',Below w24.heap.size w24 W'->W'.rangeAt b 11 (⟨2,false,s1.val,false,s2.val,0⟩:Vv).cells.toList):=Aa fun W' hb=>zmy (qb.below hb qb.lt)
  have zvm:Hid (∀ W',Below w24.heap.size w24 W'->W'.rangeAt vb vo z.cells.toList):=Aa fun W' hb j v hj=>(hb.cell (p:=⟨vb,vo+j,none⟩) eK).trans (kE.out j v hj)
  have qup:Hid (wV 2 60=⟨2,false,[60],false,[1],0⟩):=Aa rfl;clear q1 qb;refine Fz (fun W'=>Below w24.heap.size w24 W') [] (by kernel_rfl) ?_;refine Aw (i:=0) (v:=.bool true) (some 129) rfl rfl qS ?_;refine Aw (i:=1) (v:=.bool true) (some 130) rfl rfl qS ?_;refine Aw (i:=2) (v:=.bool true) (some 131) rfl rfl qS ?_;refine Aw (i:=3) (v:=.bool true) (some 132) rfl rfl qS ?_;refine Aw (i:=4) (v:=.bool true) (some 133) rfl rfl qS ?_;refine Aw (i:=5) (v:=.bool true) (some 134) rfl rfl qS ?_;go_simp
  refine Aw (i:=6) (v:=.bool true) (some 135) rfl rfl qS ?_;refine Aw (i:=7) (v:=.bool true) (some 136) rfl rfl qS ?_;refine Aw (i:=8) (v:=.bool true) (some 137) rfl rfl qS ?_;refine Aw (i:=9) (v:=.bool true) (some 138) rfl rfl qS ?_;refine Aw (i:=10) (v:=.bool true) (some 139) rfl rfl qS ?_;refine Aw (i:=11) (v:=.int .i64 0) (some 140) rfl rfl qS ?_;go_simp
  refine Aw (i:=12) (v:=.bool true) (some 141) rfl rfl qS ?_;refine Aw (i:=13) (v:=.bool true) (some 142) rfl rfl qS ?_;refine Aw (i:=14) (v:=.bool true) (some 143) rfl rfl qS ?_;refine Aw (i:=15) (v:=.slice (some ⟨vb,vo,none⟩) 1 vc) (some 144) rfl rfl qS ?_;refine Aw (i:=16) (v:=.int .i64 1) (some 145) rfl rfl qS ?_;refine Aw (i:=17) (v:=.bool true) (some 146) rfl rfl qS ?_;go_simp
  refine Aw (i:=18) (v:=.bool true) (some 147) rfl rfl qS ?_;refine Aw (i:=19) (v:=.bool true) (some 148) rfl rfl qS ?_;refine Aw (i:=20) (v:=.slice (some ⟨vb,vo,none⟩) 1 vc) (some 149) rfl rfl qS ?_;refine Aw (i:=21) (v:=.pointer (some ⟨vb,vo,none⟩)) (some 150) rfl rfl qS ?_;go_simp
  refine Dx (i:=22) (v:=z.agg) (some 151) rfl rfl (yieldsIf_load_mid (by kernel_rfl) 41 (.tmp 150) rfl vb vo (by first | rfl | go_simp) z.cells.toList _ (fun W' hS=>zvm.out W' hS) Tryz.underlying41 rfl Kn) qS ?_;refine Aw (i:=23) (v:=.pointer (some ⟨B1,8,none⟩)) (some 152) rfl rfl qS ?_;refine Dx (i:=24) (v:=.slice (some ⟨b,0,none⟩) 2 2) (some 153) rfl rfl (.inl ⟨by kernel_rfl,fun W' hS=>by have d0:=Ux.out W' hS;go_simp⟩) qS ?_;refine Aw (i:=25) (v:=.pointer (some ⟨b,9,none⟩)) (some 154) rfl rfl qS ?_;refine Aw (i:=26) (v:=.pointer (some ⟨b,11,none⟩)) (some 155) rfl rfl qS ?_;refine Dx (i:=27) (v:=(⟨2,false,s1.val,false,s2.val,0⟩:Vv).agg) (some 156) rfl rfl (yieldsIf_load_mid (by kernel_rfl) 41 (.tmp 155) rfl b 11 (by first | rfl | go_simp) (⟨2,false,s1.val,false,s2.val,0⟩:Vv).cells.toList _ (fun W' hS=>zpn.out W' hS) Tryz.underlying41 rfl Kn) qS ?_;have Ao:=zfh w24.heap.size 60 1 z ⟨2,false,s1.val,false,s2.val,0⟩ w24.drew (by have h:=zoo.out;rw[qup.out]at h;exact h.below qS (Ab _) (Ab _)) (by have h:=HE.out.vl.now;rw[qup.out]at h;exact h.below qS (Ab _) (Ab _)) (Ab _);have Dl:=Aa Ao;clear Ao;refine Ap (i:=28) rfl ?_;go_simp
  refine Dl.out.mono ?_;clear Dl;rintro e w25 ⟨rfl,za1⟩;have qS25:Below w24.heap.size w24 w25:=qS.trans za1;refine⟨qS25,?_⟩;clear za1 qS;refine Aw (i:=29) (v:=.bool true) (some 158) rfl rfl qS25 ?_;refine Aw (i:=30) (v:=.bool true) (some 159) rfl rfl qS25 ?_;refine Aw (i:=31) (v:=.slice xa 1 xc) (some 160) rfl rfl qS25 ?_;refine Ap (i:=32) rfl ?_;go_simp
  generalize hW:World.alloc w25 _=W26
  have hq:Blk W26 w25.heap.size #[Z 1] 3:=by rw[<- hW];exact Blk.new w25 _ _
  have b26:Below w25.heap.size w25 W26:=by rw[<- hW];exact Af _ _
  have qS26:Below w24.heap.size w24 W26:=qS25.trans (b26.mono qS25.size);refine⟨qS26,?_⟩;have Ao:=qdx W26.heap.size (.slice xa 1 xc) (.slice (some ⟨w25.heap.size,0,none⟩) 1 1) [1] [1] W26 (Q3.out.below qS26 (Ab _) qS26.size) (qfb hq);rw[beq_self_eq_true]at Ao;have Dl:=Aa Ao;clear Ao hq b26 hW;refine Ap (i:=33) rfl ?_;go_simp
  refine Dl.out.mono ?_;clear Dl;rintro e w27 ⟨rfl,kk,Kd⟩
  have qS27:Below w24.heap.size w24 w27:=by rw[Kd];exact Gn qS26 kk
  clear Kd;refine⟨qS27,?_⟩;refine Aw (i:=34) (v:=.bool true) (some 163) rfl rfl qS27 ?_;refine Aw (i:=35) (v:=.bool true) (some 164) rfl rfl qS27 ?_;refine Aw (i:=36) (v:=.slice ya 1 yc) (some 165) rfl rfl qS27 ?_;refine Ap (i:=37) rfl ?_;go_simp
  generalize hW:World.alloc w27 _=W28
  have hq:Blk W28 w27.heap.size #[Z 3] 3:=by rw[<- hW];exact Blk.new w27 _ _
  have b28:Below w27.heap.size w27 W28:=by rw[<- hW];exact Af _ _
  have qS28:Below w24.heap.size w24 W28:=qS27.trans (b28.mono qS27.size);refine⟨qS28,?_⟩;have Ao:=qdx W28.heap.size (.slice ya 1 yc) (.slice (some ⟨w27.heap.size,0,none⟩) 1 1) [3] [3] W28 (iP.out.below qS28 (Ab _) qS28.size) (qfb hq);rw[beq_self_eq_true]at Ao;have Dl:=Aa Ao;clear Ao hq b28 hW;refine Ap (i:=38) rfl ?_;go_simp
  refine Dl.out.mono ?_;clear Dl;rintro e w29 ⟨rfl,kk,Kd⟩
  have qS29:Below w24.heap.size w24 w29:=by rw[Kd];exact Gn qS28 kk
  clear Kd;refine⟨qS29,?_⟩;refine Aw (i:=39) (v:=.bool true) (some 168) rfl rfl qS29 ?_;refine Aw (i:=40) (v:=.bool true) (some 169) rfl rfl qS29 ?_;refine Aw (i:=41) (v:=.slice za 1 zc) (some 170) rfl rfl qS29 ?_;refine Ap (i:=42) rfl ?_;go_simp
  generalize hW:World.alloc w29 _=W30
  have hq:Blk W30 w29.heap.size #[Z 0] 3:=by rw[<- hW];exact Blk.new w29 _ _
  have b30:Below w29.heap.size w29 W30:=by rw[<- hW];exact Af _ _
  have qS30:Below w24.heap.size w24 W30:=qS29.trans (b30.mono qS29.size);refine⟨qS30,?_⟩;have Ao:=qdx W30.heap.size (.slice za 1 zc) (.slice (some ⟨w29.heap.size,0,none⟩) 1 1) [0] [0] W30 (qO.out.below qS30 (Ab _) qS30.size) (qfb hq);rw[beq_self_eq_true]at Ao;have Dl:=Aa Ao;clear Ao hq b30 hW;refine Ap (i:=43) rfl ?_;go_simp
  refine Dl.out.mono ?_;clear Dl;rintro e w31 ⟨rfl,kk,Kd⟩
  have qS31:Below w24.heap.size w24 w31:=by rw[Kd];exact Gn qS30 kk
  clear Kd;refine⟨qS31,?_⟩;refine Aw (i:=44) (v:=.bool true) (some 173) rfl rfl qS31 ?_;refine Aw (i:=45) (v:=.bool true) (some 174) rfl rfl qS31 ?_;refine Aw (i:=46) (v:=.slice ua 0 uc) (some 175) rfl rfl qS31 ?_;refine Aw (i:=47) (v:=.int .i64 0) (some 176) rfl rfl qS31 ?_;refine Aw (i:=48) (v:=.bool true) (some 177) rfl rfl qS31 ?_;refine Aw (i:=49) (v:=.bool true) (some 178) rfl rfl qS31 ?_;go_simp
  refine Aw (i:=50) (v:=.bool true) (some 0) rfl rfl qS31 ?_;refine Eo (by kernel_rfl) ?_ _;have Gj:Below T w w31:=Fd.out.trans (qS31.mono Eb);have Ka:=Aa Gj;clear Gj;go_simp
  go_wp2_with fail
  go_ret
  exact⟨rfl,Ka.out⟩
end Go.Proofs.YtlldjmagbjjeoaaGreatDoor
