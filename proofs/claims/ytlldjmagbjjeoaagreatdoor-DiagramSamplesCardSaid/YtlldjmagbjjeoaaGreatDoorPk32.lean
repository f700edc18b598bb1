/- Contracts and plain laws, several texts in one (GlM6, GlM7, GlM11, DLaw, DLaw2, DVal0, DExi, DCnd1, DTst0). No conditions beyond those stated. -/
import Derived.Deep.Quiet
import Derived.Laws.MakeOwn
import Derived.Test.YtlldjmagbjjeoaaGreatDoorPk31
set_option maxRecDepth 100000
set_option maxHeartbeats 40000000
namespace Go.Proofs.YtlldjmagbjjeoaaGreatDoor
open Go.RowKit
set_option linter.unusedVariables false
def qnp (d:Nat):Prop:=∀ (l:List Nat) (v:Value) (K:Nat) (w:World),U8s K w v l->(∀ y∈l,y<256)->K<=w.heap.size->l.length<=2^40 →
 Calls Tryz.prog 34 #[v,.int .i64 d] w fun e w'=>∃ X v',e=.returned (.tuple #[X.agg,v'])/\ExN w.heap.size w' (Ca d l).1 X/\U8s K w' v' (Ca d l).2/\Below w.heap.size w w'
theorem znm (K d x:Nat) (r:List Nat) (v:Value) (w:World) (ih:qnp d) (hu:U8s K w v (x::r)) (hx:∀ y∈x::r,y<256) (hK:K<=w.heap.size) (Cc:r.length<=2^40) (h3:x%3=0) (zjy:d<=5):Calls Tryz.prog 34 #[v,.int .i64 ((d:Int)+1)] w fun e w'=>∃ X v',e=.returned (.tuple #[X.agg,v'])/\ExN w.heap.size w' (Ca (d+1) (x::r)).1 X/\U8s K w' v' (Ca (d+1) (x::r)).2/\Below w.heap.size w w':=by
 obtain⟨Rs,J1⟩:=Ae (Ca (d+1) (x::r));have Hy:=Aa J1;rw[J1];clear J1;obtain⟨b,o,cap,rfl,Jv,Ii,Cj,Gw,bC⟩:=hu.head;unfold maxLen at Ii;obtain⟨W1,Ah⟩:=Ae (w.alloc (.cells xz.cells 43))
 have b1:Below w.heap.size w W1:=by rw[<- Ah];exact Af _ _
 have q1:Blk W1 w.heap.size xz.cells 43:=by rw[<- Ah];exact Blk.new w _ _
 have s1:W1.heap.size=w.heap.size+1:=by rw[<- Ah];simp
 obtain⟨B,hB⟩:=Ae w.heap.size;have HB:=Aa hB;have Dk:Hid (w.alloc (.cells #[.int .u8 0,.string ⟨#[]⟩,.int .u8 0,.bool false,.slice none 0 0,.bool false,.slice none 0 0,.int .i64 0,.slice none 0 0] 43)=W1):=Aa Ah;rw[hB]at b1 q1 s1 hK ⊢;have n0:W1.cell? ⟨b,o,none⟩=some (.int .u8 (x:Int)):=(b1.cell (p:=⟨b,o,none⟩) (by show b<B;omega)).trans Gw;have Ew:=bC.below (K':=K) b1 hK (Ab _);have F5:x<256:=hx x (List.mem_cons_self ..)
 have iG:∀ y∈r,y<256:=fun y h=>hx y (List.mem_cons_of_mem _ h)
 have Rc:(0:Int)<(r.length:Int)+1:=by omega
 clear hB Ah hu Gw bC hx;go_enter Tryz.func34,Tryz.ntmps34
 go_upto_region 1 with fail
 simp only[HB.out];rw[Dk.out]
 go_upto_region 3 with fail
 go_quiet (fail)
 generalize (if cap=1 then some (⟨b,o,none⟩:Addr)else some ⟨b,o+1,none⟩)=ra at Ew ⊢
 generalize cap-1=c1 at Ew ⊢
 generalize Qe:W1.drewN _=Wq
 have qq:Blk Wq B xz.cells 43:=by rw[<- Qe];exact q1
 have bq:Below B w Wq:=by rw[<- Qe];exact Gn b1 _
 have uq:U8s K Wq (.slice ra r.length c1) r:=by rw[<- Qe];exact Ew
 have sq:Wq.heap.size=B+1:=by rw[<- Qe];exact s1
 have rX:=Aa uq;have tB:=Aa bq;clear q1 b1 Ew s1 Qe n0 Dk uq bq
 go_upto_region 4 with fail
 go_cut [31]from 25 to 31 (fun s wx=>s=.bool true/\Wq=wx)
 case first =>
  have Gr:(0:Int)<(d:Int)+1:=by omega
  have zke:(x:Int)%3=0:=by omega
  go_wp2_with fail
  all_goals go_meet
  all_goals exact⟨rfl,rfl⟩
 case rest =>
 obtain⟨rfl,rfl⟩:=hcut;obtain⟨Wa,iI⟩:=Ae (((Wq.alloc (.cells xz.cells 43)).alloc (.cells xz.cells 43)).alloc (.cells xz.cells 43))
 have ba:Below Wq.heap.size Wq Wa:=by rw[<- iI];exact((Af _ _).alloc (by simp) _).alloc (by simp;omega) _
 have sa:Wa.heap.size=B+4:=by rw[<- iI];simp;omega
 have Bc:Hid (Blk Wa (B+1) xz.cells 43):=Aa (by
  have := ((Blk.new Wq xz.cells 43).alloc (.cells xz.cells 43)).alloc (.cells xz.cells 43)
  rwa[iI,sq]at this)
 have Bw:Hid (Blk Wa (B+2) xz.cells 43):=Aa (by
  have := (Blk.new (Wq.alloc (.cells xz.cells 43)) xz.cells 43).alloc (.cells xz.cells 43)
  rwa[iI,World.size_alloc,sq]at this)
 have Hz:Hid (Blk Wa (B+3) xz.cells 43):=Aa (by
  have := Blk.new ((Wq.alloc (.cells xz.cells 43)).alloc (.cells xz.cells 43)) xz.cells 43
  rwa[iI,World.size_alloc,World.size_alloc,sq]at this)
 have zai:=Aa (qq.below ba (by omega));have Zg:=Aa (tB.out.trans (ba.mono (by omega)));have HU:=Aa (rX.out.below (K':=K) ba (by omega) (Ab _));have qxj:=Aa iI;dsimp only[xz,Xv.cells]at qxj;have C1:=iG;have qhe:=Aa h3;obtain⟨m,hm⟩:=Ae (x%4)
 have D7:(x:Int)%4=(m:Int):=by omega
 have cG:m<4:=by omega
 have HM:=Aa hm;clear iI qq tB rX ba iG h3 hm
 go_upto_region 6 with fail
 rw[qxj.out];have Ao:=ih r _ K Wa HU.out C1 (by omega) Cc;obtain⟨E1,jJ⟩:∃ ze,(Ca d r).1=ze:=⟨_,rfl⟩;obtain⟨r1,Jd⟩:∃ zr,(Ca d r).2=zr:=⟨_,rfl⟩;have Np:(∀ x∈r1,x<256)/\r1.length<=2^40:=⟨fun x hx=>C1 x (by rw[<- Jd]at hx;exact T1 d _ x hx),by have := U0 d r;have h1:=qkt (Ca d r).1;rw[Jd]at this;omega⟩;rw[jJ,Jd]at Ao;have Xw:=Aa jJ;have Nz:=Aa Jd;clear jJ Jd C1 Cc;go_wp2_with fail
 refine Ao.mono ?_;rintro e w1 ⟨X1,v1,rfl,Ck,Ew,Bp⟩;have C1:=Np.1;have Cc:=Np.2;have zan:=Bp.size
 have zZ:∀ u∈X1.cells,u.oneCell'=true:=by simp[Value.oneCell']
 have qv:=Bc.out.below Bp (by omega);clear Ao Np
 go_upto_region 7 with(refine Gu rfl 43 43 (.tmp 8) (.tmp 37) rfl X1.cells _ (B+1) qv Bm rfl zZ rfl rfl ?_;intro V1 t1 t2 t3 t4)
 have nw1:An (B+4) Wa V1:=(An.of Bp).trans (An.put t3 (by omega));have Bi:=Aa (Zg.out.trans ((Bp.mono (by omega)).trans (t2 B (by omega))));have qjc:=Aa ((zai.out.below Bp (by omega)).kept t3 (by simp));have Iw:=Aa ((Ck.mono (by omega:B+4<=Wa.heap.size)).move (An.put t3 (by omega)));have Og:=Aa t1
 have sv1:B+4<=V1.heap.size:=by omega
 have aR:=Aa ((Ew.below (K':=K) (t2 B (by omega)) (by omega) (Ab _)));clear HU;have HU:=aR;clear aR;have qmz:=Aa ((Bw.out.below Bp (by omega)).kept t3 (by simp));clear Bw;have Bw:=qmz;clear qmz;have kV:=Aa ((Hz.out.below Bp (by omega)).kept t3 (by simp));clear Hz;have Hz:=kV;clear kV;clear Bp Ck Ew t1 t2 t3 t4 qv nw1 Zg zai zan;obtain⟨p,hp⟩:=Ae (x%2)
 have qaa:(x:Int)%2=(p:Int):=by omega
 have HP:=Aa hp;clear hp
 by_cases eF:m=0
 ·subst eF
  have Gv:Hid (Rs=(Gx.mk 17 [] v0 [E1],r1)):=Aa (by rw[<- Hy.out,Ca,if_pos qhe.out,if_pos HM.out,Xw.out,Nz.out]);have bM:=Og.out.range;obtain⟨T,hT⟩:=Ae V1.heap.size;obtain⟨W9,Cf⟩:=Ae (V1.alloc (.cells X1.cells 43))
  have b89:Below V1.heap.size V1 W9:=by rw[<- Cf];exact Af _ _
  have q9:Blk W9 T X1.cells 43:=by
   have := Blk.new V1 X1.cells 43;rwa[Cf,hT]at this
  have s9:W9.heap.size=T+1:=by rw[<- Cf,World.size_alloc,hT]
  have Dc:=C9 17 ⟨some ⟨T,0,none⟩,1,1⟩ W9;have Hs:=Aa Cf;have HT:=Aa hT;dsimp only[Xv.cells]at Hs;clear Cf;go_wp2_with (first | (refine wpList_load_mid rfl 43 (.tmp 8) rfl (B+1) 0 rfl X1.cells.toList _ bM Tryz.underlying43 rfl Bm ?_))
  try simp only[HT.out]
  rw[Hs.out];refine Dc.mono ?_;rintro e w10 ⟨rfl,Ci⟩;have q10:=(qjc.out.below b89 (by omega)).below Ci (by omega)
  have Oy:∀ u∈(opX 17 ⟨some ⟨T,0,none⟩,1,1⟩).cells,u.oneCell'=true:=by simp[Value.oneCell']
  clear Dc;go_wp2_with (refine Gu rfl 43 43 (.tmp 4) (.tmp 44) rfl (opX 17 ⟨some ⟨T,0,none⟩,1,1⟩).cells _ B q10 Bm rfl Oy rfl rfl ?_;intro It t1 t2 t3 t4)
  refine bodyPost_ret (Xx rfl _ _ B _ _ t1 rfl Tryz.underlying43 rfl Bm) rfl ?_;rw[Gv.out];have w89:An (B+4) V1 It:=(An.of b89).trans ((An.of Ci).trans (An.put t3 (by omega)));have w91:An (B+4) W9 It:=(An.of Ci).trans (An.put t3 (by omega));exact⟨_,_,rfl,(qvl (w91.blk (by omega) q9) (by omega) (Iw.out.move w89)).mono (by omega),((HU.out.below (K':=K) b89 (by omega) (Ab _)).below (K':=K) Ci (by omega) (Ab _)).below (t2 B (Ab _)) (by omega) (Ab _),Bi.out.trans ((b89.mono (by omega)).trans ((Ci.mono (by omega)).trans (t2 B (Ab _))))⟩
 ·have Ij:¬ (m:Int)=0:=by omega
  have v8:((m:Int)==0)=false:=by simpa using Ij
  go_upto_region 9 with fail
  have Ao:=ih r1 v1 K V1 HU.out C1 (by omega) Cc;obtain⟨E2,iX⟩:∃ ze,(Ca d r1).1=ze:=⟨_,rfl⟩;obtain⟨r2,Dw⟩:∃ zr,(Ca d r1).2=zr:=⟨_,rfl⟩;have Np:(∀ x∈r2,x<256)/\r2.length<=2^40:=⟨fun x hx=>C1 x (by rw[<- Dw]at hx;exact T1 d _ x hx),by have := U0 d r1;have h1:=qkt (Ca d r1).1;rw[Dw]at this;omega⟩;rw[iX,Dw]at Ao;have bS:=Aa iX;have Kr:=Aa Dw;clear iX Dw C1 Cc;go_wp2_with fail
  refine Ao.mono ?_;rintro e w2 ⟨X2,v2,rfl,Gi,Ha,Ai⟩;have C1:=Np.1;have Cc:=Np.2;have yT:=Ai.size
  have tP:∀ u∈X2.cells,u.oneCell'=true:=by simp[Value.oneCell']
  have qv:=Bw.out.below Ai (by omega);clear Ao Np
  go_upto_region 10 with(refine Gu rfl 43 43 (.tmp 9) (.tmp 51) rfl X2.cells _ (B+2) qv Bm rfl tP rfl rfl ?_;intro V2 t1 t2 t3 t4)
  have nw2:An (B+4) V1 V2:=(An.of Ai).trans (An.put t3 (by omega));have Bz:=Aa (Bi.out.trans ((Ai.mono (by omega)).trans (t2 B (by omega))));have qi0:=Aa ((qjc.out.below Ai (by omega)).kept t3 (by simp));have Ym:=Aa ((Gi.mono (by omega:B+4<=V1.heap.size)).move (An.put t3 (by omega)));have Gh:=Aa t1
  have sv2:B+4<=V2.heap.size:=by omega
  have aR:=Aa ((Ha.below (K':=K) (t2 B (by omega)) (by omega) (Ab _)));clear HU;have HU:=aR;clear aR;have kV:=Aa ((Hz.out.below Ai (by omega)).kept t3 (by simp));clear Hz;have Hz:=kV;clear kV;have vK:=Aa (Iw.out.move nw2);clear Iw;have Iw:=vK;clear vK;have qH:=Aa ((Og.out.below Ai (by omega)).kept t3 (by simp));clear Og;have Og:=qH;clear qH;clear Ai Gi Ha t1 t2 t3 t4 qv nw2 Bi qjc yT
  by_cases I6:m=3
  ·subst I6
   go_upto_region 11 with fail
   have Ao:=ih r2 v2 K V2 HU.out C1 (by omega) Cc;obtain⟨E3,vZ⟩:∃ ze,(Ca d r2).1=ze:=⟨_,rfl⟩;obtain⟨r3,Ug⟩:∃ zr,(Ca d r2).2=zr:=⟨_,rfl⟩;have Np:(∀ x∈r3,x<256)/\r3.length<=2^40:=⟨fun x hx=>C1 x (by rw[<- Ug]at hx;exact T1 d _ x hx),by have := U0 d r2;have h1:=qkt (Ca d r2).1;rw[Ug]at this;omega⟩;rw[vZ,Ug]at Ao;have gM:=Aa vZ;have qfu:=Aa Ug;clear vZ Ug C1 Cc;go_wp2_with fail
   refine Ao.mono ?_;rintro e w3 ⟨X3,v3,rfl,Tk,fU,Ak⟩;have C1:=Np.1;have Cc:=Np.2;have jV:=Ak.size
   have xV:∀ u∈X3.cells,u.oneCell'=true:=by simp[Value.oneCell']
   have qv:=Hz.out.below Ak (by omega);clear Ao Np
   go_upto_region 12 with(refine Gu rfl 43 43 (.tmp 10) (.tmp 61) rfl X3.cells _ (B+3) qv Bm rfl xV rfl rfl ?_;intro V3 t1 t2 t3 t4)
   have nw3:An (B+4) V2 V3:=(An.of Ak).trans (An.put t3 (by omega));have Do:=Aa (Bz.out.trans ((Ak.mono (by omega)).trans (t2 B (by omega))));have zov:=Aa ((qi0.out.below Ak (by omega)).kept t3 (by simp));have Rg:=Aa ((Tk.mono (by omega:B+4<=V2.heap.size)).move (An.put t3 (by omega)));have O6:=Aa t1
   have sv3:B+4<=V3.heap.size:=by omega
   have aR:=Aa ((fU.below (K':=K) (t2 B (by omega)) (by omega) (Ab _)));clear HU;have HU:=aR;clear aR;have vK:=Aa (Iw.out.move nw3);clear Iw;have Iw:=vK;clear vK;have qH:=Aa ((Og.out.below Ak (by omega)).kept t3 (by simp));clear Og;have Og:=qH;clear qH;have qpt:=Aa (Ym.out.move nw3);clear Ym;have Ym:=qpt;clear qpt;have zbo:=Aa ((Gh.out.below Ak (by omega)).kept t3 (by simp));clear Gh;have Gh:=zbo;clear zbo;clear Ak Tk fU t1 t2 t3 t4 qv nw3 Bz qi0 jV;have Gv:Hid (Rs=(Gx.mk 18 [] v0 [E1,E2,E3],r3)):=Aa (by rw[<- Hy.out,Ca,if_pos qhe.out,if_neg (by rw[HM.out];omega),if_pos HM.out,Nz.out,Kr.out,Xw.out,bS.out,gM.out,qfu.out]);have bM:=Og.out.range;have uN:=Gh.out.range;have zma:=O6.out.range;obtain⟨T,hT⟩:=Ae V3.heap.size;obtain⟨W9,Cf⟩:=Ae (V3.alloc (.cells (vL X1 X2 X3) 43))
   have b89:Below V3.heap.size V3 W9:=by rw[<- Cf];exact Af _ _
   have q9:Blk W9 T (vL X1 X2 X3) 43:=by
    have := Blk.new V3 (vL X1 X2 X3) 43;rwa[Cf,hT]at this
   have s9:W9.heap.size=T+1:=by rw[<- Cf,World.size_alloc,hT]
   have Dc:=C9 18 ⟨some ⟨T,0,none⟩,3,3⟩ W9;have Hs:=Aa Cf;have HT:=Aa hT;dsimp only[vL]at Hs;clear Cf;go_wp2_with (first | (refine wpList_load_mid rfl 43 (.tmp 8) rfl (B+1) 0 rfl X1.cells.toList _ bM Tryz.underlying43 rfl Bm ?_) | (refine wpList_load_mid rfl 43 (.tmp 9) rfl (B+2) 0 rfl X2.cells.toList _ uN Tryz.underlying43 rfl Bm ?_) | (refine wpList_load_mid rfl 43 (.tmp 10) rfl (B+3) 0 rfl X3.cells.toList _ zma Tryz.underlying43 rfl Bm ?_))
   try simp only[HT.out]
   rw[Hs.out];refine Dc.mono ?_;rintro e w10 ⟨rfl,Ci⟩;have q10:=(zov.out.below b89 (by omega)).below Ci (by omega)
   have Oy:∀ u∈(opX 18 ⟨some ⟨T,0,none⟩,3,3⟩).cells,u.oneCell'=true:=by simp[Value.oneCell']
   clear Dc;go_wp2_with (refine Gu rfl 43 43 (.tmp 4) (.tmp 67) rfl (opX 18 ⟨some ⟨T,0,none⟩,3,3⟩).cells _ B q10 Bm rfl Oy rfl rfl ?_;intro It t1 t2 t3 t4)
   refine bodyPost_ret (Xx rfl _ _ B _ _ t1 rfl Tryz.underlying43 rfl Bm) rfl ?_;rw[Gv.out];have w89:An (B+4) V3 It:=(An.of b89).trans ((An.of Ci).trans (An.put t3 (by omega)));have w91:An (B+4) W9 It:=(An.of Ci).trans (An.put t3 (by omega));exact⟨_,_,rfl,(zkn (w91.blk (by omega) q9) (by omega) (Iw.out.move w89) (Ym.out.move w89) (Rg.out.move w89)).mono (by omega),((HU.out.below (K':=K) b89 (by omega) (Ab _)).below (K':=K) Ci (by omega) (Ab _)).below (t2 B (Ab _)) (by omega) (Ab _),Do.out.trans ((b89.mono (by omega)).trans ((Ci.mono (by omega)).trans (t2 B (Ab _))))⟩
  ·have zyi:((m:Int)==3)=false:=by simp;omega
   have Gv:Hid (Rs=(Gx.mk (15+(p:Int)) [] v0 [E1,E2],r2)):=Aa (by rw[<- Hy.out,Ca,if_pos qhe.out,if_neg (by rw[HM.out];exact eF),if_neg (by rw[HM.out];exact I6),HP.out,Nz.out,Xw.out,bS.out,Kr.out])
   have Qg:p<2:=by have := HP.out;omega
   have bM:=Og.out.range;have uN:=Gh.out.range;obtain⟨T,hT⟩:=Ae V2.heap.size;obtain⟨W9,Cf⟩:=Ae (V2.alloc (.cells (Cq X1 X2) 43))
   have b89:Below V2.heap.size V2 W9:=by rw[<- Cf];exact Af _ _
   have q9:Blk W9 T (Cq X1 X2) 43:=by
    have := Blk.new V2 (Cq X1 X2) 43;rwa[Cf,hT]at this
   have s9:W9.heap.size=T+1:=by rw[<- Cf,World.size_alloc,hT]
   have Dc:=C9 (15+(p:Int)) ⟨some ⟨T,0,none⟩,2,2⟩ W9;have Hs:=Aa Cf;have HT:=Aa hT;dsimp only[Cq]at Hs;clear Cf;go_wp2_with (first | (refine wpList_load_mid rfl 43 (.tmp 8) rfl (B+1) 0 rfl X1.cells.toList _ bM Tryz.underlying43 rfl Bm ?_) | (refine wpList_load_mid rfl 43 (.tmp 9) rfl (B+2) 0 rfl X2.cells.toList _ uN Tryz.underlying43 rfl Bm ?_))
   try simp only[HT.out]
   rw[Hs.out];refine Dc.mono ?_;rintro e w10 ⟨rfl,Ci⟩;have q10:=(qi0.out.below b89 (by omega)).below Ci (by omega)
   have Oy:∀ u∈(opX (15+(p:Int)) ⟨some ⟨T,0,none⟩,2,2⟩).cells,u.oneCell'=true:=by simp[Value.oneCell']
   clear Dc;go_wp2_with (refine Gu rfl 43 43 (.tmp 4) (.tmp 75) rfl (opX (15+(p:Int)) ⟨some ⟨T,0,none⟩,2,2⟩).cells _ B q10 Bm rfl Oy rfl rfl ?_;intro It t1 t2 t3 t4)
   refine bodyPost_ret (Xx rfl _ _ B _ _ t1 rfl Tryz.underlying43 rfl Bm) rfl ?_;rw[Gv.out];have w89:An (B+4) V2 It:=(An.of b89).trans ((An.of Ci).trans (An.put t3 (by omega)));have w91:An (B+4) W9 It:=(An.of Ci).trans (An.put t3 (by omega));exact⟨_,_,rfl,(I9 (w91.blk (by omega) q9) (by omega) (Iw.out.move w89) (Ym.out.move w89)).mono (by omega),((HU.out.below (K':=K) b89 (by omega) (Ab _)).below (K':=K) Ci (by omega) (Ab _)).below (t2 B (Ab _)) (by omega) (Ab _),Bz.out.trans ((b89.mono (by omega)).trans ((Ci.mono (by omega)).trans (t2 B (Ab _))))⟩
theorem qzq (d:Nat):Ca d []=(iN,[]):=by cases d<;>rfl
theorem zvk (d:Nat):d<=6->qnp d:=by
 induction d with
 | zero =>
  intro _ l v K w hu hx hK Cc
  cases l with
  | nil=>rw[qzq];exact zbc K 0 v w hu
  | cons x r =>
   rw[List.length_cons]at Cc;have := qy9 K 0 x r v w hu hx hK (by omega) (.inl rfl) (by omega);rw[Ca];exact this
 | succ d ih =>
  intro hd l v K w hu hx hK Cc
  cases l with
  | nil=>rw[qzq];exact zbc K (d+1) v w hu
  | cons x r =>
   rw[List.length_cons]at Cc
   by_cases h3:x%3=0
   ·exact znm K d x r v w (ih (by omega)) hu hx hK (by omega) h3 (by omega)
   ·have := qy9 K (d+1) x r v w hu hx hK (by omega) (.inr h3) (by omega)
    rw[Ca,if_neg h3];exact this
theorem j5 (K:Nat) (l:List Nat) (v:Value) (w:World) (hu:U8s K w v l) (hx:∀ y∈l,y<256) (hK:K<=w.heap.size) (Cc:l.length<=2^40):Calls Tryz.prog 11 #[v] w fun e w'=>∃ X:Xv,e=.returned X.agg/\ExN w.heap.size w' (Ca 6 l).1 X/\Below w.heap.size w w':=by
 obtain⟨W1,Ah⟩:=Ae (w.alloc (.cells xz.cells 43))
 have b1:Below w.heap.size w W1:=by rw[<- Ah];exact Af _ _
 have q1:Blk W1 w.heap.size xz.cells 43:=by rw[<- Ah];exact Blk.new w _ _
 have s1:W1.heap.size=w.heap.size+1:=by rw[<- Ah];simp
 obtain⟨B,hB⟩:=Ae w.heap.size;have HB:=Aa hB;have Dk:Hid (w.alloc (.cells #[.int .u8 0,.string ⟨#[]⟩,.int .u8 0,.bool false,.slice none 0 0,.bool false,.slice none 0 0,.int .i64 0,.slice none 0 0] 43)=W1):=Aa Ah;rw[hB]at b1 q1 s1 hK ⊢
 have Ao:Calls Tryz.prog 34 #[v,.int .i64 6] W1 fun e w'=>∃ X v',e=.returned (.tuple #[X.agg,v'])/\ExN W1.heap.size w' (Ca 6 l).1 X/\U8s K w' v' (Ca 6 l).2/\Below W1.heap.size W1 w':=zvk 6 (Ab _) l v K W1 (hu.below b1 hK (Ab _)) hx (by omega) Cc
 obtain⟨E,hE⟩:=Ae ((Ca 6 l).1);rw[hE]at Ao ⊢;clear hB Ah hu hE hx Cc;go_enter Tryz.func11,Tryz.ntmps11
 go_upto_region 1 with fail
 simp only[HB.out];rw[Dk.out];go_wp2_with fail
 refine Ao.mono ?_;rintro e w2 ⟨X,v',rfl,hx,_,Ai⟩;have Az:=Ai.size
 have Bd:∀ u∈X.cells,u.oneCell'=true:=by simp[Value.oneCell']
 clear Ao
 go_upto_region 2 with(refine Iu rfl 43 (.tmp 3) (.tmp 8) rfl X.cells _ Bm rfl Bd w2.heap.size rfl rfl rfl ?_)
 obtain⟨S,hS⟩:=Ae w2.heap.size;obtain⟨W3,Cn⟩:=Ae (w2.alloc (.cells X.cells 43))
 have b3:Below w2.heap.size w2 W3:=by rw[<- Cn];exact Af _ _
 have qs:Blk W3 S X.cells 43:=by rw[<- Cn,<- hS];exact Blk.new w2 _ _
 have q3:=(q1.below Ai (by omega)).below b3 (by omega);have Ce:=qs.range;have HS:=Aa hS;have sC:=Aa Cn;simp only[HS.out];rw[sC.out];clear hS Cn
 go_wp2_with (first
  | (refine wpList_load_mid rfl 43 (.tmp 3) rfl S 0 rfl X.cells.toList _ Ce Tryz.underlying43 rfl Bm ?_)
  | (refine Gu rfl 43 43 (.tmp 2) (.tmp 10) rfl X.cells _ B q3 Bm rfl Bd rfl rfl ?_;intro W5 t1 t2 t3 t4))
 refine bodyPost_ret (Pk rfl _ _ B _ _ t1 rfl Tryz.underlying43 rfl Bm) rfl ?_;exact⟨X,rfl,((hx.mono (by omega:B+1<=W1.heap.size)).move ((An.of b3).trans (An.put t3 (by omega)))).mono (by omega),b1.trans ((Ai.mono (by omega)).trans ((b3.mono (by omega)).trans (t2 B (Ab _))))⟩
theorem An.puts {L r:Nat} {V W W':World} (h:An L V W) (hg:W.grownBy W' (some r)) (hr:r<L\/V.heap.size<=r):An L V W' :=
 ⟨Nat.le_trans h.size hg.size,fun k h1 h2=>(hg.block k (Nat.lt_of_lt_of_le h2 h.size) (fun e=>by simp at e;omega)).trans (h.block k h1 h2)⟩
theorem VlN.now {L:Nat} {V:World} {v:Vq} {x:Vv} (h:VlN L V v x):VlX V.heap.size V v x:=h V (An.refl _ _)
theorem VlN.mono {L L':Nat} {V:World} {v:Vq} {x:Vv} (h:VlN L V v x) (hl:L'<=L):VlN L' V v x:=fun X hx=>h X (hx.mono hl)
theorem zn3 (s:Sc):(Bf s).Nodup:=by
 unfold Bf
 split
 ·unfold Vl;exact List.Nodup.sublist List.filter_sublist List.nodup_range
 ·exact List.nodup_nil
theorem qfa {l:List Sc} (hl:LM l) (hf:Uw l):∀ p∈pcs l,p.Nodup/\p≠[]:=by
 intro p hp
 obtain⟨s,hs,rfl⟩:=List.mem_map.1 hp;exact⟨zn3 s,qz2 (hl.each s hs) (hf s hs)⟩
section
variable {l:List Sc} {cs:List Nat} {a:Gx}
end
theorem zoe {P:List (List Nat)} (h:∀ p∈P,p≠[]):Cu P (P.map fun p=>p.headD 0):=by
 refine⟨by simp,fun i c hc=>?_⟩;rw[List.getElem?_map]at hc;obtain⟨p,hp,rfl⟩:=Option.map_eq_some_iff.1 hc;refine⟨p,hp,?_⟩;have := h p (List.mem_of_getElem? hp)
 cases p with
 | nil=>exact absurd rfl this
 | cons a b=>exact List.mem_cons_self ..
theorem Lu.fun {P:List (List Nat)} {st:DSt} {cs:List Nat} {t:Int} {a b:List Nat} (h:Lu P st cs t a) (h':Lu P st cs t b):a=b:=by
 induction h with
 | leaf n l h =>
  generalize e:(-1-(n:Int))=u at h'
  cases h' with
  | leaf m l' h2 =>
   have:m=n:=by omega
   subst this;rw[h]at h2;exact Option.some.inj h2
  | node m=>omega
 | node n sc nx t l h1 h2 _ ih =>
  generalize e:(n:Int)=u at h'
  cases h' with
  | leaf m l' _=>omega
  | node m sc' nx' t' l' h3 h4 h5 =>
   have:m=n:=by omega
   subst this;rw[h1]at h3;cases h3
   rw[h2]at h4;cases h4
   exact ih h5
structure DgV (scs:List Sc) (st:DSt) (root:Int):Prop where
 len:scs.length<=16
 ok:∀ s∈scs,s.okB=true
 node:∀ (n sc:Nat) (nx:List Int),st.nds[n]?=some (sc,nx)->∃ s,scs[sc]?=some s/\nx.length=(Bf s).length/\∀ t∈nx,TOk st (sc+1) t
 leaf:∀ (n:Nat) (l:List Nat),st.lvs[n]?=some l->l.Pairwise (· < ·)
 root:TOk st 0 root
 nsz:st.nds.length<=2^40
 lsz:st.lvs.length<=2^40
theorem zh4 (l:List Sc) (es:List Gx) (cs:List Nat):(lfS l es cs).Pairwise (· < ·):=by
 unfold lfS;exact List.Pairwise.filter _ List.pairwise_lt_range
theorem qls {scs:List Sc} (es:List Gx) (Cc:scs.length<=16) (Ay:∀ s∈scs,s.okB=true) (hP:∀ p∈pcs scs,p.Nodup/\p≠[]) (Dn:Gd (pcs scs)<=2^40) :
  DgV scs (tgt (lfS scs es) (pcs scs) 0 [] DSt.no).2 (tgt (lfS scs es) (pcs scs) 0 [] DSt.no).1:=by
 have h:=qgk (lf:=lfS scs es) hP
 have hs:=qgb (lfS scs es) (pcs scs) 0 [] DSt.no fun p hp=>(hP p hp).2
 have h1:(tgt (lfS scs es) (pcs scs) 0 [] DSt.no).2.nds.length+1<=0+Gd (pcs scs):=hs.1;have h2:(tgt (lfS scs es) (pcs scs) 0 [] DSt.no).2.lvs.length<=0+Gd (pcs scs):=hs.2;refine⟨Cc,Ay,fun n sc nx hn=>?_,fun n l hl=>?_,h.tok,by omega,by omega⟩
 ·obtain⟨g1,g2,_,g4⟩:=h.wf.node n sc nx hn
  unfold pcs at g1 g2;rw[List.length_map]at g1;refine⟨scs[sc],Ac g1,?_,g4⟩;rw[List.getElem?_map,Ac g1]at g2;exact g2
 ·obtain⟨cs,_,rfl⟩:=h.wf.leaf n l hl
  exact zh4 _ _ _
def exB (nl nn:Nat) (t:Int):Bool:=if t<0 then decide (-1-t<(nl:Int))else decide (t<(nn:Int))
theorem qoa {st:DSt} {sc:Nat} {t:Int} (h:TOk st sc t):exB st.lvs.length st.nds.length t=true:=by
 unfold exB
 rcases h with⟨n,rfl,hn⟩ | ⟨n,x,rfl,hn,_⟩
 ·rw[if_pos (by omega)];exact decide_eq_true (by omega)
 ·rw[if_neg (by omega)];exact decide_eq_true (by have := (List.getElem?_eq_some_iff.1 hn).1;omega)
theorem qqg (b:Nat) (x:Dv) (t:Int) (w:World) (hq:Blk w b x.cells 31) (ht : -(2^62)<t/\t<2^62) :
  Calls Tryz.prog 44 #[.pointer (some ⟨b,0,none⟩),.int .i64 t] w fun e w'=>e=.returned (.bool (exB x.l.n x.n.n t))/\w'=w:=by
 obtain⟨c0,c1,c2,c3⟩:=hq.four;have hb:=hq.lt;unfold exB
 by_cases h:t<0
 ·have hd:decide (t<0)=true:=by simpa using h
  have hw:IntKind.i64.wrap (-1-t) = -1-t:=IntWalk.i64_in _ (by omega);rw[if_pos h];clear ht hq;go_enter Tryz.func44,Tryz.ntmps44
  go_wp2_with fail
  go_ret
  exact⟨rfl,rfl⟩
 ·have hd:decide (t<0)=false:=by simpa using h
  rw[if_neg h];clear ht hq;go_enter Tryz.func44,Tryz.ntmps44
  go_wp2_with fail
  go_ret
  exact⟨rfl,rfl⟩
theorem zpx {K:Nat} {w:World} {v:Value} {l:List Nat} (h:Ee K w v l) {i:Nat} (hi:i<l.length):∃ b o c,v=.slice (some ⟨b,o,none⟩) l.length c/\w.cell? ⟨b,o+i,none⟩=some (Z (l[i]?.getD 0)):=by
 obtain⟨b,o,c,he,_,_,_,hc⟩:=Ee.pos h (by omega);exact⟨b,o,c,he,hc i hi⟩
theorem zl4 (P:List Nat->Prop) (K b:Nat) (t:Bool) (W:World) (hb:Blk W b #[.bool t] 4) (hK:b<K):Ty P (fun _=>t) (.func (.func 66) #[] #[.pointer (some ⟨b,0,none⟩)]) K W:=by
 refine⟨66,_,rfl,enters_of Tryz.func66 (by kernel_rfl) rfl,fun W' v cs Cs Tw hv hp=>?_⟩;have c0:W'.cell? ⟨b,0,none⟩=some (.bool t):=(hb.below Cs hK).at rfl;clear hb Cs hv hp
 show Calls _ _ #[v,.pointer (some ⟨b,0,none⟩)] W' _
 go_enter Tryz.func66,Tryz.ntmps66
 go_wp2_with fail
 go_ret
 exact⟨rfl,Below.refl _ _⟩
theorem zv3 (P:List Nat->Prop) (K:Nat) (W:World):Ty P (fun _=>false) (.func (.func 100) #[] #[]) K W:=by
 refine⟨100,_,rfl,enters_of Tryz.func100 (by kernel_rfl) rfl,fun W' v cs Cs Tw hv hp=>?_⟩;clear Cs hv hp
 show Calls _ _ #[v] W' _
 go_enter Tryz.func100,Tryz.ntmps100
 go_wp2_with fail
 go_ret
 exact⟨rfl,Below.refl _ _⟩
structure gK (P:List Nat->Prop) (lb n:Nat) (ps:Nat->List Nat->Bool) (K:Nat) (W:World):Prop where
 box:∃ a c,Blk W lb #[.slice a n c] 87/\lb<K/\∃ fv:Nat->Value,Au 1 (fun i _=>fv i) K W (.slice a n c) n/\∀ i,i<n->Ty P (ps i) (fv i) K W
theorem gK.cells {P:List Nat->Prop} {lb n:Nat} {ps:Nat->List Nat->Bool} {K:Nat} {W W':World} (h:gK P lb n ps K W) (hb:Below K W W') (hn:0<n):∃ b o c,W'.cell? ⟨lb,0,none⟩=some (.slice (some ⟨b,o,none⟩) n c) ∧
  ∀ i,i<n->∃ g caps,(∀ args w,(callFunc g args).run Tryz.prog w=.ok (.enter g args) w)/\W'.cell? ⟨b,o+i,none⟩=some (.func (.func g) #[] caps) ∧
   ∀ (W'':World) (v:Value) (cs:List Nat),Below K W W''->K<=W''.heap.size->Ee W''.heap.size W'' v cs->P cs->Calls Tryz.prog g (#[v]++caps) W'' fun e W3=>e=.returned (.bool (ps i cs))/\Below W''.heap.size W'' W3:=by
 obtain⟨a,c,hq,Dh,fv,hr,hf⟩:=h.box;obtain⟨b,o,cap,he,_,_,Cj,hc⟩:=hr.pos hn;simp only[Value.slice.injEq,true_and]at he;obtain⟨rfl,rfl⟩:=he;refine⟨b,o,c,(hq.below hb Dh).at rfl,fun i hi=>?_⟩;obtain⟨g,caps,B9,hg,Ao⟩:=hf i hi;exact⟨g,caps,hg,(hb.cell (p:=⟨b,o+i,none⟩) Cj).trans (by have := hc i hi 0 (by omega);rw[B9]at this;simpa using this),Ao⟩
theorem zvb (P:List Nat->Prop) (K lb:Nat) (ps:Nat->List Nat->Bool) (W:World) (h:gK P lb 1 ps K W):Ty P (fun cs => !ps 0 cs) (.func (.func 70) #[] #[.pointer (some ⟨lb,0,none⟩)]) K W:=by
 refine⟨70,_,rfl,enters_of Tryz.func70 (by kernel_rfl) rfl,fun W' v cs Cs Tw hv hp=>?_⟩;obtain⟨b,o,c,c0,hc⟩:=h.cells Cs (by omega);obtain⟨g0,p0,e0,d0,h0⟩:=hc 0 (by omega);rw[Nat.add_zero]at d0;have H0:=Aa (h0 W' v cs Cs Tw hv hp);obtain⟨t0,Nv⟩:∃ t,ps 0 cs=t:=⟨_,rfl⟩;rw[Nv]at H0;simp only[Nv];clear h Cs hc h0 hv hp Nv
 show Calls _ _ #[v,.pointer (some ⟨lb,0,none⟩)] W' _
 go_enter Tryz.func70,Tryz.ntmps70
 go_wp2_with fail
 refine H0.out.mono ?_;clear H0;rintro e w1 ⟨rfl,Bp⟩;go_wp2_with fail
 go_ret
 exact⟨rfl,Bp⟩
theorem zwz (P:List Nat->Prop) (K lb:Nat) (ps:Nat->List Nat->Bool) (W:World) (h:gK P lb 2 ps K W):Ty P (fun cs=>ps 0 cs && ps 1 cs) (.func (.func 68) #[] #[.pointer (some ⟨lb,0,none⟩)]) K W:=by
 refine⟨68,_,rfl,enters_of Tryz.func68 (by kernel_rfl) rfl,fun W' v cs Cs Tw hv hp=>?_⟩;obtain⟨b,o,c,c0,hc⟩:=h.cells Cs (by omega);obtain⟨g0,p0,e0,d0,h0⟩:=hc 0 (by omega);rw[Nat.add_zero]at d0;have H0:=Aa (h0 W' v cs Cs Tw hv hp);have Cm:=Aa Cs;have HV:=Aa hv;have HP:=Aa hp;have H:=Aa h;obtain⟨t1,Nf⟩:∃ t,ps 1 cs=t:=⟨_,rfl⟩;have Vi:=Aa Nf;obtain⟨t0,Nv⟩:∃ t,ps 0 cs=t:=⟨_,rfl⟩;rw[Nv]at H0;simp only[Nv,Nf];clear h Cs hc h0 hv hp Nv Nf
 show Calls _ _ #[v,.pointer (some ⟨lb,0,none⟩)] W' _
 go_enter Tryz.func68,Tryz.ntmps68
 go_wp2_with fail
 refine H0.out.mono ?_;clear H0 c0 d0 e0;rintro e w1 ⟨rfl,Bp⟩;have Py:Below K W w1:=Cm.out.trans (Bp.mono Tw)
 cases t0 with
 | true =>
  obtain⟨b,o,c,c0,hc⟩:=H.out.cells Py (by omega);obtain⟨g1,p1,e1,d1,h1⟩:=hc 1 (by omega);have H1:=Aa (h1 w1 v cs Py (by have := Bp.size;omega) (HV.out.below Bp (Ab _) Bp.size) HP.out);rw[Vi.out]at H1;have Bi:=Aa Bp;clear hc h1 Py Bp;go_wp2_with fail
  refine H1.out.mono ?_;clear H1;rintro e w2 ⟨rfl,Ai⟩;go_wp2_with fail
  go_ret
  exact⟨by show Ending.returned (.bool t1)=_;simp,Bi.out.trans (Ai.mono Bi.out.size)⟩
 | false =>
  have Bi:=Aa Bp;clear Py Bp;go_wp2_with fail
  go_ret
  exact⟨by first | rfl | (show Ending.returned (.bool _)=_;simp),Bi.out⟩
theorem zrc (P:List Nat->Prop) (K lb:Nat) (ps:Nat->List Nat->Bool) (W:World) (h:gK P lb 2 ps K W):Ty P (fun cs=>ps 0 cs || ps 1 cs) (.func (.func 69) #[] #[.pointer (some ⟨lb,0,none⟩)]) K W:=by
 refine⟨69,_,rfl,enters_of Tryz.func69 (by kernel_rfl) rfl,fun W' v cs Cs Tw hv hp=>?_⟩;obtain⟨b,o,c,c0,hc⟩:=h.cells Cs (by omega);obtain⟨g0,p0,e0,d0,h0⟩:=hc 0 (by omega);rw[Nat.add_zero]at d0;have H0:=Aa (h0 W' v cs Cs Tw hv hp);have Cm:=Aa Cs;have HV:=Aa hv;have HP:=Aa hp;have H:=Aa h;obtain⟨t1,Nf⟩:∃ t,ps 1 cs=t:=⟨_,rfl⟩;have Vi:=Aa Nf;obtain⟨t0,Nv⟩:∃ t,ps 0 cs=t:=⟨_,rfl⟩;rw[Nv]at H0;simp only[Nv,Nf];clear h Cs hc h0 hv hp Nv Nf
 show Calls _ _ #[v,.pointer (some ⟨lb,0,none⟩)] W' _
 go_enter Tryz.func69,Tryz.ntmps69
 go_wp2_with fail
 refine H0.out.mono ?_;clear H0 c0 d0 e0;rintro e w1 ⟨rfl,Bp⟩;have Py:Below K W w1:=Cm.out.trans (Bp.mono Tw)
 cases t0 with
 | false =>
  obtain⟨b,o,c,c0,hc⟩:=H.out.cells Py (by omega);obtain⟨g1,p1,e1,d1,h1⟩:=hc 1 (by omega);have H1:=Aa (h1 w1 v cs Py (by have := Bp.size;omega) (HV.out.below Bp (Ab _) Bp.size) HP.out);rw[Vi.out]at H1;have Bi:=Aa Bp;clear hc h1 Py Bp;go_wp2_with fail
  refine H1.out.mono ?_;clear H1;rintro e w2 ⟨rfl,Ai⟩;go_wp2_with fail
  go_ret
  exact⟨by show Ending.returned (.bool t1)=_;simp,Bi.out.trans (Ai.mono Bi.out.size)⟩
 | true =>
  have Bi:=Aa Bp;clear Py Bp;go_wp2_with fail
  go_ret
  exact⟨by first | rfl | (show Ending.returned (.bool _)=_;simp),Bi.out⟩
theorem zsz (P:List Nat->Prop) (K lb:Nat) (ps:Nat->List Nat->Bool) (W:World) (h:gK P lb 3 ps K W):Ty P (fun cs=>if ps 0 cs then ps 1 cs else ps 2 cs) (.func (.func 71) #[] #[.pointer (some ⟨lb,0,none⟩)]) K W:=by
 refine⟨71,_,rfl,enters_of Tryz.func71 (by kernel_rfl) rfl,fun W' v cs Cs Tw hv hp=>?_⟩;obtain⟨b,o,c,c0,hc⟩:=h.cells Cs (by omega);obtain⟨g0,p0,e0,d0,h0⟩:=hc 0 (by omega);rw[Nat.add_zero]at d0;have H0:=Aa (h0 W' v cs Cs Tw hv hp);have Cm:=Aa Cs;have HV:=Aa hv;have HP:=Aa hp;have H:=Aa h;obtain⟨t1,Nf⟩:∃ t,ps 1 cs=t:=⟨_,rfl⟩;have Vi:=Aa Nf;obtain⟨t2,O4⟩:∃ t,ps 2 cs=t:=⟨_,rfl⟩;have Rb:=Aa O4;obtain⟨t0,Nv⟩:∃ t,ps 0 cs=t:=⟨_,rfl⟩;rw[Nv]at H0;simp only[Nv,Nf,O4];clear h Cs hc h0 hv hp Nv Nf O4
 show Calls _ _ #[v,.pointer (some ⟨lb,0,none⟩)] W' _
 go_enter Tryz.func71,Tryz.ntmps71
 go_wp2_with fail
 refine H0.out.mono ?_;clear H0 c0 d0 e0;rintro e w1 ⟨rfl,Bp⟩;have Py:Below K W w1:=Cm.out.trans (Bp.mono Tw)
 cases t0 with
 | true =>
  obtain⟨b,o,c,c0,hc⟩:=H.out.cells Py (by omega);obtain⟨g1,p1,e1,d1,h1⟩:=hc 1 (by omega);have H1:=Aa (h1 w1 v cs Py (by have := Bp.size;omega) (HV.out.below Bp (Ab _) Bp.size) HP.out);rw[Vi.out]at H1;have Bi:=Aa Bp;clear hc h1 Py Bp;go_wp2_with fail
  refine H1.out.mono ?_;clear H1;rintro e w2 ⟨rfl,Ai⟩;go_wp2_with fail
  go_ret
  exact⟨rfl,Bi.out.trans (Ai.mono Bi.out.size)⟩
 | false =>
  obtain⟨b,o,c,c0,hc⟩:=H.out.cells Py (by omega);obtain⟨g1,p1,e1,d1,h1⟩:=hc 2 (by omega);have H1:=Aa (h1 w1 v cs Py (by have := Bp.size;omega) (HV.out.below Bp (Ab _) Bp.size) HP.out);rw[Rb.out]at H1;have Bi:=Aa Bp;clear hc h1 Py Bp;go_wp2_with fail
  refine H1.out.mono ?_;clear H1;rintro e w2 ⟨rfl,Ai⟩;go_wp2_with fail
  go_ret
  exact⟨rfl,Bi.out.trans (Ai.mono Bi.out.size)⟩
def Kf (n:Nat) (f:Nat->Value):Array Value:=((List.range n).map f).toArray
theorem i8 (n:Nat) (f:Nat->Value):(Kf n f).size=n:=by simp[Kf]
theorem wD {n i:Nat} (f:Nat->Value) (h:i<n):(Kf n f)[i]?=some (f i):=by simp[Kf,h]
theorem zmg (n i:Nat) (f:Nat->Value) (x:Value):(Kf n f).setIfInBounds i x=Kf n (fun k=>if k=i then x else f k):=by
 apply Array.ext_getElem?
 intro k
 by_cases hk:k<n
 ·rw[wD _ hk]
  by_cases h:k=i
  ·subst h;rw[Array.getElem?_setIfInBounds_self_of_lt (by rw[i8];exact hk)];simp
  ·rw[Array.getElem?_setIfInBounds_ne (fun e=>h e.symm),wD _ hk,if_neg h]
 ·rw[Array.getElem?_eq_none (by simp[i8];omega),Array.getElem?_eq_none (by simp[i8];omega)]
theorem zim {n:Nat} {f g:Nat->Value} (h:∀ i,i<n->f i=g i):Kf n f=Kf n g:=by
 unfold Kf
 congr 1
 exact List.map_congr_left fun i hi=>h i (List.mem_range.1 hi)
theorem qws (z:Value) (n:Nat):madeCells #[z] (n*1)=Kf n fun _=>z:=by
 apply Array.ext_getElem?
 intro k
 by_cases hk:k<n
 ·rw[wD _ hk];simp[madeCells,hk,Nat.mod_one]
 ·rw[Array.getElem?_eq_none (by simp[madeCells];omega),Array.getElem?_eq_none (by simp[i8];omega)]
theorem zg3:(Tryz.prog.info? 4).map (fun i=>(i.zero,i.size,i.bytes))=some (some (.bool false),1,1):=by kernel_rfl
theorem ze7 (n:Nat) (hn:n<=2^38) (w:World):(Instr.makeSlice 146 (.int .i64 n) (.int .i64 n)).run Tryz.prog w=.ok (.slice (some ⟨w.heap.size,0,none⟩) n n) (w.alloc (.cells (Kf n fun _=>.bool false) 4)):=by
 obtain⟨i0,hi,Cz,Gb,Ft⟩:=info_parts zg3;have h:=run_make (P:=Tryz.prog) w 146 4 i0 _ Tryz.underlying146 hi Cz .i64 .i64 n n (by omega) (Int.le_refl _) (by rw[Ft];omega) (by omega);rw[Gb,Int.toNat_natCast]at h;rw[h];have := qws (.bool false) n;simp only[Value.cells]at this ⊢;rw[this]
def R0 (vis:List Nat) (h:Nat->Bool) (k:Nat):Value:=.bool (vis.contains k && h k)
theorem zom (vis:List Nat) (h:Nat->Bool) (m c:Nat):(Kf m (R0 vis h)).setIfInBounds c (.bool (h c))=Kf m (R0 (vis++[c]) h):=by
 rw[zmg]
 refine zim fun k _=>?_
 unfold R0
 by_cases e:k=c
 ·subst e;simp
 ·rw[if_neg e];simp[e]
theorem zqq (P:List Nat->Prop) (p:List Nat->Bool) (K hb rb ib m i:Nat) (f:Nat->Value) (W:World) (q1:Blk W hb #[.slice (some ⟨rb,0,none⟩) m m] 146) (q2:Blk W rb (Kf m f) 4) (q3:Blk W ib #[.int .i64 i] 3)
  (h1:hb<K) (h2:rb<K) (h3:ib<K) (hp:∀ cs,P cs->i<cs.length/\cs[i]?.getD 0<m/\f (cs[i]?.getD 0)=.bool (p cs)) :
  Ty P p (.func (.func 99) #[] #[.pointer (some ⟨hb,0,none⟩),.pointer (some ⟨ib,0,none⟩)]) K W:=by
 refine⟨99,_,rfl,enters_of Tryz.func99 (by kernel_rfl) rfl,fun W' v cs Cs Tw hv Pj=>?_⟩;obtain⟨g1,g2,g3⟩:=hp cs Pj;obtain⟨b,o,c,rfl,e0⟩:=zpx hv g1;have c0:W'.cell? ⟨hb,0,none⟩=some (.slice (some ⟨rb,0,none⟩) m m):=(q1.below Cs h1).at rfl;have c3:W'.cell? ⟨ib,0,none⟩=some (.int .i64 i):=(q3.below Cs h3).at rfl;obtain⟨z,hz⟩:=Ae (cs[i]?.getD 0);rw[hz]at g2 g3 e0;have c2:W'.cell? ⟨rb,z,none⟩=some (.bool (p cs)):=(q2.below Cs h2).at (by rw[wD f g2,g3]);obtain⟨n,hn⟩:=Ae cs.length;obtain⟨t,ht⟩:=Ae (p cs);rw[ht]at c2;simp only[ht];rw[hn]at g1 ⊢;clear Cs Tw hv Pj hp q1 q2 q3 g3 hz hn ht
 show Calls _ _ #[.slice (some ⟨b,o,none⟩) n c,.pointer (some ⟨hb,0,none⟩),.pointer (some ⟨ib,0,none⟩)] W' _
 go_enter Tryz.func99,Tryz.ntmps99
 go_upto_region 1 with fail
 go_quiet (fail)
 go_wp2_with fail
 go_ret
 exact⟨rfl,Gn (Below.refl _ _) _⟩
structure BC (bb:Nat) (sv pv:Sl) (scs:List Sc) (gv:Nat->Value) (K:Nat) (w:World):Prop where
 blk:∃ cs,Blk w bb cs 89/\cs[0]?=some sv.val/\cs[5]?=some pv.val
 lt:bb<K
 s:Mo K w sv.val scs
 p:Au 1 (fun i _=>gv i) K w pv.val scs.length
 pn:∀ i,i<scs.length->Ee K w (gv i) (Bf (scs[i]?.getD default))
theorem BC.below {bb:Nat} {sv pv:Sl} {scs:List Sc} {gv:Nat->Value} {K K' B:Nat} {w w':World} (h:BC bb sv pv scs gv K w) (hb:Below B w w') (hB:K<=B) (hK:K<=K'):BC bb sv pv scs gv K' w':=by
 obtain⟨cs,h1,h2,h3⟩:=h.blk;have := h.lt;exact⟨⟨cs,h1.below hb (by omega),h2,h3⟩,by omega,h.s.below hb hB hK,Au.below h.p hb hB hK,fun i hi=>Ee.below (h.pn i hi) hb hB hK⟩
def kH (scs:List Sc):Prop:=∀ s∈scs,(∀ c∈s.cuts,c.good=true)/\s.cuts.length<=2^38/\Bf s≠[]/\∀ c∈Bf s,c<=2^30
theorem qpo (s:Sc):(Bf s).Pairwise (· < ·):=by
 unfold Bf
 split
 ·unfold Vl;exact List.Pairwise.filter _ List.pairwise_lt_range
 ·exact List.Pairwise.nil
theorem zvt {l:List Nat} (h:l.Pairwise (· < ·)) {c:Nat} (hc:c∈l):c<=l[l.length-1]?.getD 0:=by
 obtain⟨j,hj,rfl⟩:=List.getElem_of_mem hc;rw[Ac (by omega),Option.getD_some]
 by_cases e:j=l.length-1
 ·simp[e]
 ·exact Nat.le_of_lt (List.pairwise_iff_getElem.1 h j (l.length-1) hj (by omega) (by omega))
theorem Mo.one {K:Nat} {w:World} {b o n sm i:Nat} {l:List Sc} {c:Nat} (h:Mo K w (.slice (some ⟨b,o,none⟩) n sm) l) (hn:l.length=n) (hi:i<n) (hc:1<=c) (hm:c<=maxLen):Mo K w (.slice (some ⟨b,o+i*11,none⟩) 1 c) [l[i]?.getD default]:=by
 obtain⟨g,h1,h2⟩:=h;subst hn;obtain⟨b',o',cap,he,_,_,Cj,Ba⟩:=h1.pos (by omega);simp only[Value.slice.injEq,Option.some.injEq,Addr.mk.injEq,and_true,true_and]at he;obtain⟨⟨rfl,rfl⟩,rfl⟩:=he;refine⟨fun _=>g i,⟨_,c,rfl,hc,hm,fun h=>(by cases h),fun k hk=>⟨b,o+i*11,rfl,Cj,fun j hj=>?_⟩⟩,fun k hk=>?_⟩
 ·have On:k=0:=by simp at hk;omega
  subst On;rw[Nat.zero_mul,Nat.zero_add,Nat.add_assoc];exact Ba i hi j hj
 ·have On:k=0:=by simp at hk;omega
  subst On;exact h2 i hi
end Go.Proofs.YtlldjmagbjjeoaaGreatDoor
