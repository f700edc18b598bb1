/- Contracts and plain laws, several texts in one (GlM5). No conditions beyond those stated. -/
import Derived.Deep.CutRange
import Derived.Test.YtlldjmagbjjeoaaGreatDoorPk30
set_option maxRecDepth 100000
set_option maxHeartbeats 40000000
namespace Go.Proofs.YtlldjmagbjjeoaaGreatDoor
open Go.RowKit
set_option linter.unusedVariables false
theorem qs7 (x:Nat) (r:List Nat):∀ y∈(Rq x r).2,y∈r:=by
 unfold Rq
 split
 ·exact fun y h=>h
 ·exact fun y h=>List.mem_of_mem_tail h
theorem T1:∀ (d:Nat) (l:List Nat),∀ y∈(Ca d l).2,y∈l
 | d,[]=>by cases d<;>(intro y h;cases h)
 | 0,x::r=>fun y h=>List.mem_cons_of_mem _ (qs7 x r y h)
 | d+1,x::r=>by
  intro y h
  refine List.mem_cons_of_mem _ ?_;rw[Ca]at h
  split at h
  ·split at h
   ·exact T1 d r y h
   ·split at h
    ·exact T1 d r y (T1 d _ y (T1 d _ y h))
    ·exact T1 d r y (T1 d _ y h)
  ·exact qs7 x r y h
theorem qkt (e:Gx):1<=e.parts:=by cases e;rw[Gx.parts];omega
theorem zbc (K d:Nat) (v:Value) (w:World) (hu:U8s K w v []):Calls Tryz.prog 34 #[v,.int .i64 d] w fun e w'=>∃ X v',e=.returned (.tuple #[X.agg,v'])/\ExN w.heap.size w' iN X/\U8s K w' v' []/\Below w.heap.size w w':=by
 obtain⟨a,cap,rfl,_⟩:=Au.form hu;obtain⟨W1,Ah⟩:=Ae (w.alloc (.cells xz.cells 43))
 have b1:Below w.heap.size w W1:=by rw[<- Ah];exact Af _ _
 have q1:Blk W1 w.heap.size xz.cells 43:=by rw[<- Ah];exact Blk.new w _ _
 have s1:W1.heap.size=w.heap.size+1:=by rw[<- Ah];simp
 obtain⟨B,hB⟩:=Ae w.heap.size;have HB:=Aa hB;have Dk:Hid (w.alloc (.cells #[.int .u8 0,.string ⟨#[]⟩,.int .u8 0,.bool false,.slice none 0 0,.bool false,.slice none 0 0,.int .i64 0,.slice none 0 0] 43)=W1):=Aa Ah;rw[hB]at b1 q1 s1 ⊢;have cV:=qh9 1 false false ⟨none,0,0⟩ ⟨none,0,0⟩ 1 W1
 have Bd:∀ u∈(Ch 1 false ⟨none,0,0⟩ false ⟨none,0,0⟩ 1).cells,u.oneCell'=true:=by simp[Value.oneCell']
 clear hB Ah hu;go_enter Tryz.func34,Tryz.ntmps34
 go_upto_region 1 with fail
 simp only[HB.out];rw[Dk.out];go_wp2_with fail
 refine cV.mono ?_;rintro e w2 ⟨rfl,Ai⟩;have q2:=q1.below Ai (by omega);clear cV;go_wp2_with (refine Gu rfl 43 43 (.tmp 4) (.tmp 19) rfl (Ch 1 false ⟨none,0,0⟩ false ⟨none,0,0⟩ 1).cells _ B q2 Bm rfl Bd rfl rfl ?_;intro W2 t1 t2 t3 t4)
 refine bodyPost_ret (Xx rfl _ _ B _ _ t1 rfl Tryz.underlying43 rfl Bm) rfl ?_;exact⟨_,_,rfl,tJ (v:=Pd 1 1) fun W hw=>rR _ _ _ _,U8s.nil _ _,b1.trans ((Ai.mono (by omega)).trans (t2 B (Ab _)))⟩
theorem qy9 (K d x:Nat) (r:List Nat) (v:Value) (w:World) (hu:U8s K w v (x::r)) (hx:∀ y∈x::r,y<256) (hK:K<=w.heap.size) (Cc:r.length<=2^40) (hd:d=0\/x%3≠0) (zjy:d<=6):Calls Tryz.prog 34 #[v,.int .i64 d] w fun e w'=>∃ X v',e=.returned (.tuple #[X.agg,v'])/\ExN w.heap.size w' (Rq x r).1 X/\U8s K w' v' (Rq x r).2/\Below w.heap.size w w':=by
 obtain⟨Rs,J1⟩:=Ae (Rq x r);have Hy:=Aa J1;rw[J1];clear J1;obtain⟨b,o,cap,rfl,Jv,Ii,Cj,Gw,bC⟩:=hu.head;unfold maxLen at Ii;obtain⟨W1,Ah⟩:=Ae (w.alloc (.cells xz.cells 43))
 have b1:Below w.heap.size w W1:=by rw[<- Ah];exact Af _ _
 have q1:Blk W1 w.heap.size xz.cells 43:=by rw[<- Ah];exact Blk.new w _ _
 have s1:W1.heap.size=w.heap.size+1:=by rw[<- Ah];simp
 obtain⟨B,hB⟩:=Ae w.heap.size;have HB:=Aa hB;have Dk:Hid (w.alloc (.cells #[.int .u8 0,.string ⟨#[]⟩,.int .u8 0,.bool false,.slice none 0 0,.bool false,.slice none 0 0,.int .i64 0,.slice none 0 0] 43)=W1):=Aa Ah;rw[hB]at b1 q1 s1 hK ⊢;have n0:W1.cell? ⟨b,o,none⟩=some (.int .u8 (x:Int)):=(b1.cell (p:=⟨b,o,none⟩) (by show b<B;omega)).trans Gw;have Ew:=bC.below (K':=K) b1 hK (Ab _);have F5:x<256:=hx x (List.mem_cons_self ..)
 have iG:∀ y∈r,y<256:=fun y h=>hx y (List.mem_cons_of_mem _ h)
 have Rc:(0:Int)<(r.length:Int)+1:=by omega
 clear hB Ah hu Gw bC hx;go_enter Tryz.func34,Tryz.ntmps34
 go_upto_region 1 with fail
 simp only[HB.out];rw[Dk.out]
 go_upto_region 3 with fail
 go_quiet (fail)
 generalize (if cap=1 then some (⟨b,o,none⟩:Addr)else some ⟨b,o+1,none⟩)=ra at Ew ⊢
 generalize cap-1=c1 at Ew ⊢
 generalize Qe:W1.drewN _=Wq
 have qq:Blk Wq B xz.cells 43:=by rw[<- Qe];exact q1
 have bq:Below B w Wq:=by rw[<- Qe];exact Gn b1 _
 have uq:U8s K Wq (.slice ra r.length c1) r:=by rw[<- Qe];exact Ew
 have sq:Wq.heap.size=B+1:=by rw[<- Qe];exact s1
 have rX:=Aa uq;have tB:=Aa bq;clear q1 b1 Ew s1 Qe n0 Dk uq bq
 go_upto_region 4 with fail
 go_cut [31]from 25 to 31 (fun s wx=>s=.bool false/\Wq=wx)
 case first =>
  by_cases h0:d=0
  ·subst h0
   go_wp2_with fail
   all_goals go_meet
   all_goals exact⟨rfl,rfl⟩
  ·have Gr:(0:Int)<(d:Int):=by omega
   have h3:¬ (x:Int)%3=0:=by omega
   have h4:((x:Int)%3==0)=false:=by simpa using h3
   go_wp2_with fail
   all_goals go_meet
   all_goals exact⟨rfl,rfl⟩
 case rest =>
 obtain⟨rfl,rfl⟩:=hcut;obtain⟨k,hk⟩:=Ae (x/3)
 have Mp:(x:Int)/3=(k:Int):=by omega
 have yH:k<256:=by omega
 have qcq:=zdx k Wq yH;clear hd;go_wp2_with fail
 refine qcq.mono ?_;rintro e w2 ⟨Xs,rfl,Sx,Ai⟩;have zvy:=Ai.size;have q2:=qq.below Ai (by omega);have lJ:=Aa (rX.out.below (K':=K) Ai (by omega) (Ab _));have Bz:=Aa (tB.out.trans (Ai.mono (by omega)))
 have Bd:∀ u∈Xs.cells,u.oneCell'=true:=by simp[Value.oneCell']
 clear qcq qq rX tB
 go_upto_region 16 with(refine Iu rfl 43 (.tmp 12) (.tmp 80) rfl Xs.cells _ Bm rfl Bd w2.heap.size rfl rfl rfl ?_)
 obtain⟨W3,Cn⟩:=Ae (w2.alloc (.cells Xs.cells 43))
 have b3:Below w2.heap.size w2 W3:=by rw[<- Cn];exact Af _ _
 obtain⟨S,hS⟩:=Ae w2.heap.size
 have qs:Blk W3 S Xs.cells 43:=by rw[<- Cn,<- hS];exact Blk.new w2 _ _
 have s3:W3.heap.size=S+1:=by rw[<- Cn,<- hS];simp
 have sS:B+1<=S:=by omega
 have q3:=q2.below b3 (by omega);have Rd:=Aa (lJ.out.below (K':=K) b3 (by omega) (Ab _));have Do:=Aa (Bz.out.trans (b3.mono (by omega)));have Rg:=Aa ((Sx.mono (by omega:B+1<=Wq.heap.size)).move (An.of b3));have sC:=Aa Cn;have HS:=Aa hS;clear q2 lJ Bz b3 Sx Cn zvy Ai hS;simp only[HS.out];rw[sC.out];have Vw:=qg1 k W3 yH
 by_cases Kd:Di k=1
 ·rw[Kd]at Vw
  go_wp2_with fail
  refine Vw.mono ?_;rintro e w4 ⟨rfl,Al⟩;have Fi:=Al.size;have q4:=q3.below Al (by omega);have qs4:=qs.below Al (by omega);have Ce:=qs4.range;have mV:=Aa (Rd.out.below (K':=K) Al (by omega) (Ab _));have Ei:=Aa (Do.out.trans (Al.mono (by omega)));have iU:=Aa (Rg.out.move (An.of Al));have T6:Hid (Rs=(Fq k,r)):=Aa (by rw[<- Hy.out];unfold Rq;rw[hk,if_pos Kd]);clear Vw q3 qs Rd Do Rg Al
  go_wp2_with (first
   | (refine wpList_load_mid rfl 43 (.tmp 12) rfl S 0 rfl Xs.cells.toList _ Ce Tryz.underlying43 rfl Bm ?_)
   | (refine Gu rfl 43 43 (.tmp 4) (.tmp 84) rfl Xs.cells _ B q4 Bm rfl Bd rfl rfl ?_;intro W5 t1 t2 t3 t4))
  refine bodyPost_ret (Xx rfl _ _ B _ _ t1 rfl Tryz.underlying43 rfl Bm) rfl ?_;rw[T6.out];exact⟨Xs,_,rfl,(iU.out.move (An.put t3 (by omega))).mono (by omega),mV.out.below (t2 B (Ab _)) (by omega) (Ab _) |>.grow (by omega),Ei.out.trans (t2 B (Ab _))⟩
 ·have dR:(Di k==1)=false:=by simpa using Kd
  go_wp2_with fail
  refine Vw.mono ?_;rintro e w4 ⟨rfl,Al⟩;have Fi:=Al.size;have q4:=q3.below Al (by omega);have qs4:=qs.below Al (by omega);have rI:=Rd.out.below (K':=K) Al (by omega) (Ab _);have Ei:=Aa (Do.out.trans (Al.mono (by omega)));have iU:=Aa (Rg.out.move (An.of Al));clear Vw q3 qs Rd Do Rg Al
  have sw4:S+1<=w4.heap.size:=by omega
  have mV:=Aa rI;have Io:=Aa q4;have yQ:=Aa qs4;clear rI q4 qs4
  go_upto_region 19 with fail
  cases r with
  | nil =>
   have Ml:Hid (Rs=(Lc x 0,[])):=Aa (by rw[<- Hy.out];unfold Rq;rw[hk,if_neg Kd];rfl)
   have uS:0<8:=by omega
   have Hj:∀ W:World,Calls Tryz.prog 63 #[.int .u8 (Di k),.int .i64 0] W fun e w'=>∃ (k' i:Int) (f1 f2:Bool) (s1 s2:Sl),e=.returned (⟨k',f1,s1.val,f2,s2.val,i⟩:Vv).agg/\VlN W.heap.size w' (wV (Di k) 0) ⟨k',f1,s1.val,f2,s2.val,i⟩/\Below W.heap.size W w':=qok (Di k) (wT k) 0 (by omega)
   have Up:=Aa Hj;clear Hj
   go_upto_region 21 with fail
   have Vw:=qg1 k w4 yH;go_wp2_with fail
   refine Vw.mono ?_;rintro e w5 ⟨rfl,Aq⟩;have Kg:=Aq.size;go_wp2_with fail
   refine(Up.out w5).mono ?_;rintro e w6 ⟨kk,ii,f1,f2,s1,s2,rfl,Mr,Bk⟩;have Nt:=Bk.size;have cV:=qh9 kk f1 f2 s1 s2 ii w6;go_wp2_with fail
   refine cV.mono ?_;rintro e w7 ⟨rfl,Ct⟩;have gE:=Ct.size;clear Vw cV;have Ox:=tJ (v:=wV (Di k) 0) (Mr.move (An.of Ct));obtain⟨a1,n1,m1⟩:=s1;obtain⟨a2,n2,m2⟩:=s2
   have tP:∀ u∈(Ch kk f1 ⟨a1,n1,m1⟩ f2 ⟨a2,n2,m2⟩ ii).cells,u.oneCell'=true:=by simp[Value.oneCell']
   go_upto_region 22 with(refine Iu rfl 43 (.tmp 14) (.tmp 100) rfl (Ch kk f1 ⟨a1,n1,m1⟩ f2 ⟨a2,n2,m2⟩ ii).cells _ Bm rfl tP w7.heap.size rfl rfl rfl ?_)
   obtain⟨W8,G8⟩:=Ae (w7.alloc (.cells (Ch kk f1 ⟨a1,n1,m1⟩ f2 ⟨a2,n2,m2⟩ ii).cells 43));obtain⟨T,hT⟩:=Ae w7.heap.size
   have b78:Below w7.heap.size w7 W8:=by rw[<- G8];exact Af _ _
   have b48:Below w4.heap.size w4 W8:=Aq.trans ((Bk.mono (by omega)).trans ((Ct.mono (by omega)).trans (b78.mono (by omega))));have q8:=Io.out.below b48 (by omega);have qs8:=yQ.out.below b48 (by omega)
   have qt8:Blk W8 T (Ch kk f1 ⟨a1,n1,m1⟩ f2 ⟨a2,n2,m2⟩ ii).cells 43:=by rw[<- G8,<- hT];exact Blk.new w7 _ _
   have T8:=Aa (mV.out.below (K':=K) b48 (by omega) (Ab _));have Rm:=Aa (Ei.out.trans (b48.mono (by omega)));have aI:=Aa (iU.out.move (An.of b48));have Ux:=Aa ((Ox.move (An.of b78)).mono (by omega:B+1<=w5.heap.size))
   have s8:W8.heap.size=T+1:=by rw[<- G8,<- hT];simp
   have sT:S+1<=T:=by omega
   have qke:=Aa G8;have HT:=Aa hT;simp only[HT.out];rw[qke.out];clear Mr Ox Aq Bk Ct b78 b48 mV Ei iU Io yQ G8 hT Kg Nt gE;have Ih:=qs8.range;have Gt:=qt8.range;obtain⟨m,hm⟩:=Ae (x%4)
   have D7:(x:Int)%4=(m:Int):=by omega
   have cG:m=0\/m=1\/m=2\/m=3:=by omega
   rcases cG with rfl | rfl | rfl | rfl
   ·have Gv:Hid (Rs=(Gx.mk 13 [] v0 [(Fq k),(Kv (wV (Di k) 0))],[])):=Aa (by rw[Ml.out];unfold Lc;rw[hk,if_pos (by omega),if_pos (by omega)])
    obtain⟨W9,Cf⟩:=Ae (W8.alloc (.cells (Cq Xs (Ch kk f1 ⟨a1,n1,m1⟩ f2 ⟨a2,n2,m2⟩ ii)) 43))
    have b89:Below W8.heap.size W8 W9:=by rw[<- Cf];exact Af _ _
    have q9:Blk W9 (T+1) (Cq Xs (Ch kk f1 ⟨a1,n1,m1⟩ f2 ⟨a2,n2,m2⟩ ii)) 43:=by
     have := Blk.new W8 (Cq Xs (Ch kk f1 ⟨a1,n1,m1⟩ f2 ⟨a2,n2,m2⟩ ii)) 43;rwa[Cf,s8]at this
    have s9:W9.heap.size=T+2:=by rw[<- Cf,World.size_alloc,s8]
    have Dc:=C9 13 ⟨some ⟨T+1,0,none⟩,2,2⟩ W9;have Hs:=Aa Cf;dsimp only[Cq,Ch]at Hs;clear Cf hm
    go_wp2_with (first
     | (refine wpList_load_mid rfl 43 (.tmp 12) rfl S 0 rfl Xs.cells.toList _ Ih Tryz.underlying43 rfl Bm ?_)
     | (refine wpList_load_mid rfl 43 (.tmp 14) rfl T 0 rfl (Ch kk f1 ⟨a1,n1,m1⟩ f2 ⟨a2,n2,m2⟩ ii).cells.toList _ Gt Tryz.underlying43 rfl Bm ?_))
    rw[Hs.out];refine Dc.mono ?_;rintro e w10 ⟨rfl,Ci⟩;have q10:=(q8.below b89 (by omega)).below Ci (by omega)
    have Oy:∀ u∈(opX 13 ⟨some ⟨T+1,0,none⟩,2,2⟩).cells,u.oneCell'=true:=by simp[Value.oneCell']
    clear Dc;go_wp2_with (refine Gu rfl 43 43 (.tmp 4) (.tmp 108) rfl (opX 13 ⟨some ⟨T+1,0,none⟩,2,2⟩).cells _ B q10 Bm rfl Oy rfl rfl ?_;intro It t1 t2 t3 t4)
    refine bodyPost_ret (Xx rfl _ _ B _ _ t1 rfl Tryz.underlying43 rfl Bm) rfl ?_;rw[Gv.out];have w89:An (B+1) W8 It:=(An.of b89).trans ((An.of Ci).trans (An.put t3 (by omega)));have w91:An (B+1) W9 It:=(An.of Ci).trans (An.put t3 (by omega));exact⟨_,_,rfl,(I9 (w91.blk (by omega) q9) (by omega) (aI.out.move w89) (Ux.out.move w89)).mono (by omega),((T8.out.below (K':=K) b89 (by omega) (Ab _)).below (K':=K) Ci (by omega) (Ab _)).below (t2 B (Ab _)) (by omega) (Ab _),Rm.out.trans ((b89.mono (by omega)).trans ((Ci.mono (by omega)).trans (t2 B (Ab _))))⟩
   ·have Gv:Hid (Rs=(Gx.mk 13 [] v0 [(Kv (wV (Di k) 0)),(Fq k)],[])):=Aa (by rw[Ml.out];unfold Lc;rw[hk,if_pos (by omega),if_neg (by omega)])
    obtain⟨W9,Cf⟩:=Ae (W8.alloc (.cells (Cq (Ch kk f1 ⟨a1,n1,m1⟩ f2 ⟨a2,n2,m2⟩ ii) Xs) 43))
    have b89:Below W8.heap.size W8 W9:=by rw[<- Cf];exact Af _ _
    have q9:Blk W9 (T+1) (Cq (Ch kk f1 ⟨a1,n1,m1⟩ f2 ⟨a2,n2,m2⟩ ii) Xs) 43:=by
     have := Blk.new W8 (Cq (Ch kk f1 ⟨a1,n1,m1⟩ f2 ⟨a2,n2,m2⟩ ii) Xs) 43;rwa[Cf,s8]at this
    have s9:W9.heap.size=T+2:=by rw[<- Cf,World.size_alloc,s8]
    have Dc:=C9 13 ⟨some ⟨T+1,0,none⟩,2,2⟩ W9;have Hs:=Aa Cf;dsimp only[Cq,Ch]at Hs;clear Cf hm
    go_wp2_with (first
     | (refine wpList_load_mid rfl 43 (.tmp 14) rfl T 0 rfl (Ch kk f1 ⟨a1,n1,m1⟩ f2 ⟨a2,n2,m2⟩ ii).cells.toList _ Gt Tryz.underlying43 rfl Bm ?_)
     | (refine wpList_load_mid rfl 43 (.tmp 12) rfl S 0 rfl Xs.cells.toList _ Ih Tryz.underlying43 rfl Bm ?_))
    rw[Hs.out];refine Dc.mono ?_;rintro e w10 ⟨rfl,Ci⟩;have q10:=(q8.below b89 (by omega)).below Ci (by omega)
    have Oy:∀ u∈(opX 13 ⟨some ⟨T+1,0,none⟩,2,2⟩).cells,u.oneCell'=true:=by simp[Value.oneCell']
    clear Dc;go_wp2_with (refine Gu rfl 43 43 (.tmp 4) (.tmp 115) rfl (opX 13 ⟨some ⟨T+1,0,none⟩,2,2⟩).cells _ B q10 Bm rfl Oy rfl rfl ?_;intro It t1 t2 t3 t4)
    refine bodyPost_ret (Xx rfl _ _ B _ _ t1 rfl Tryz.underlying43 rfl Bm) rfl ?_;rw[Gv.out];have w89:An (B+1) W8 It:=(An.of b89).trans ((An.of Ci).trans (An.put t3 (by omega)));have w91:An (B+1) W9 It:=(An.of Ci).trans (An.put t3 (by omega));exact⟨_,_,rfl,(I9 (w91.blk (by omega) q9) (by omega) (Ux.out.move w89) (aI.out.move w89)).mono (by omega),((T8.out.below (K':=K) b89 (by omega) (Ab _)).below (K':=K) Ci (by omega) (Ab _)).below (t2 B (Ab _)) (by omega) (Ab _),Rm.out.trans ((b89.mono (by omega)).trans ((Ci.mono (by omega)).trans (t2 B (Ab _))))⟩
   ·have Gv:Hid (Rs=(Gx.mk 14 [] v0 [(Fq k),(Kv (wV (Di k) 0))],[])):=Aa (by rw[Ml.out];unfold Lc;rw[hk,if_neg (by omega),if_pos (by omega)])
    obtain⟨W9,Cf⟩:=Ae (W8.alloc (.cells (Cq Xs (Ch kk f1 ⟨a1,n1,m1⟩ f2 ⟨a2,n2,m2⟩ ii)) 43))
    have b89:Below W8.heap.size W8 W9:=by rw[<- Cf];exact Af _ _
    have q9:Blk W9 (T+1) (Cq Xs (Ch kk f1 ⟨a1,n1,m1⟩ f2 ⟨a2,n2,m2⟩ ii)) 43:=by
     have := Blk.new W8 (Cq Xs (Ch kk f1 ⟨a1,n1,m1⟩ f2 ⟨a2,n2,m2⟩ ii)) 43;rwa[Cf,s8]at this
    have s9:W9.heap.size=T+2:=by rw[<- Cf,World.size_alloc,s8]
    have Dc:=C9 14 ⟨some ⟨T+1,0,none⟩,2,2⟩ W9;have Hs:=Aa Cf;dsimp only[Cq,Ch]at Hs;clear Cf hm
    go_wp2_with (first
     | (refine wpList_load_mid rfl 43 (.tmp 12) rfl S 0 rfl Xs.cells.toList _ Ih Tryz.underlying43 rfl Bm ?_)
     | (refine wpList_load_mid rfl 43 (.tmp 14) rfl T 0 rfl (Ch kk f1 ⟨a1,n1,m1⟩ f2 ⟨a2,n2,m2⟩ ii).cells.toList _ Gt Tryz.underlying43 rfl Bm ?_))
    rw[Hs.out];refine Dc.mono ?_;rintro e w10 ⟨rfl,Ci⟩;have q10:=(q8.below b89 (by omega)).below Ci (by omega)
    have Oy:∀ u∈(opX 14 ⟨some ⟨T+1,0,none⟩,2,2⟩).cells,u.oneCell'=true:=by simp[Value.oneCell']
    clear Dc;go_wp2_with (refine Gu rfl 43 43 (.tmp 4) (.tmp 122) rfl (opX 14 ⟨some ⟨T+1,0,none⟩,2,2⟩).cells _ B q10 Bm rfl Oy rfl rfl ?_;intro It t1 t2 t3 t4)
    refine bodyPost_ret (Xx rfl _ _ B _ _ t1 rfl Tryz.underlying43 rfl Bm) rfl ?_;rw[Gv.out];have w89:An (B+1) W8 It:=(An.of b89).trans ((An.of Ci).trans (An.put t3 (by omega)));have w91:An (B+1) W9 It:=(An.of Ci).trans (An.put t3 (by omega));exact⟨_,_,rfl,(I9 (w91.blk (by omega) q9) (by omega) (aI.out.move w89) (Ux.out.move w89)).mono (by omega),((T8.out.below (K':=K) b89 (by omega) (Ab _)).below (K':=K) Ci (by omega) (Ab _)).below (t2 B (Ab _)) (by omega) (Ab _),Rm.out.trans ((b89.mono (by omega)).trans ((Ci.mono (by omega)).trans (t2 B (Ab _))))⟩
   ·have Gv:Hid (Rs=(Gx.mk 14 [] v0 [(Kv (wV (Di k) 0)),(Fq k)],[])):=Aa (by rw[Ml.out];unfold Lc;rw[hk,if_neg (by omega),if_neg (by omega)])
    obtain⟨W9,Cf⟩:=Ae (W8.alloc (.cells (Cq (Ch kk f1 ⟨a1,n1,m1⟩ f2 ⟨a2,n2,m2⟩ ii) Xs) 43))
    have b89:Below W8.heap.size W8 W9:=by rw[<- Cf];exact Af _ _
    have q9:Blk W9 (T+1) (Cq (Ch kk f1 ⟨a1,n1,m1⟩ f2 ⟨a2,n2,m2⟩ ii) Xs) 43:=by
     have := Blk.new W8 (Cq (Ch kk f1 ⟨a1,n1,m1⟩ f2 ⟨a2,n2,m2⟩ ii) Xs) 43;rwa[Cf,s8]at this
    have s9:W9.heap.size=T+2:=by rw[<- Cf,World.size_alloc,s8]
    have Dc:=C9 14 ⟨some ⟨T+1,0,none⟩,2,2⟩ W9;have Hs:=Aa Cf;dsimp only[Cq,Ch]at Hs;clear Cf hm
    go_wp2_with (first
     | (refine wpList_load_mid rfl 43 (.tmp 14) rfl T 0 rfl (Ch kk f1 ⟨a1,n1,m1⟩ f2 ⟨a2,n2,m2⟩ ii).cells.toList _ Gt Tryz.underlying43 rfl Bm ?_)
     | (refine wpList_load_mid rfl 43 (.tmp 12) rfl S 0 rfl Xs.cells.toList _ Ih Tryz.underlying43 rfl Bm ?_))
    rw[Hs.out];refine Dc.mono ?_;rintro e w10 ⟨rfl,Ci⟩;have q10:=(q8.below b89 (by omega)).below Ci (by omega)
    have Oy:∀ u∈(opX 14 ⟨some ⟨T+1,0,none⟩,2,2⟩).cells,u.oneCell'=true:=by simp[Value.oneCell']
    clear Dc;go_wp2_with (refine Gu rfl 43 43 (.tmp 4) (.tmp 127) rfl (opX 14 ⟨some ⟨T+1,0,none⟩,2,2⟩).cells _ B q10 Bm rfl Oy rfl rfl ?_;intro It t1 t2 t3 t4)
    refine bodyPost_ret (Xx rfl _ _ B _ _ t1 rfl Tryz.underlying43 rfl Bm) rfl ?_;rw[Gv.out];have w89:An (B+1) W8 It:=(An.of b89).trans ((An.of Ci).trans (An.put t3 (by omega)));have w91:An (B+1) W9 It:=(An.of Ci).trans (An.put t3 (by omega));exact⟨_,_,rfl,(I9 (w91.blk (by omega) q9) (by omega) (Ux.out.move w89) (aI.out.move w89)).mono (by omega),((T8.out.below (K':=K) b89 (by omega) (Ab _)).below (K':=K) Ci (by omega) (Ab _)).below (t2 B (Ab _)) (by omega) (Ab _),Rm.out.trans ((b89.mono (by omega)).trans ((Ci.mono (by omega)).trans (t2 B (Ab _))))⟩
  | cons y r' =>
   obtain⟨b2,o2,cap2,he,dU,aW,qtg,zz1,qu2⟩:=mV.out.head;unfold maxLen at aW;rw[List.length_cons]at he;simp only[Value.slice.injEq,true_and]at he;obtain⟨rfl,rfl⟩:=he
   have zht:(0:Int)<(r'.length:Int)+1:=by omega
   have hy:y<256:=iG y (List.mem_cons_self ..);simp only[List.length_cons];obtain⟨n,hn⟩:=Ae (y%8)
   have zrr:(y:Int)%8=(n:Int):=by omega
   have uS:n<8:=by omega
   have Ml:Hid (Rs=(Lc x n,r')):=Aa (by rw[<- Hy.out];unfold Rq;rw[hk,if_neg Kd,<- hn];rfl)
   have Hj:∀ W:World,Calls Tryz.prog 63 #[.int .u8 (Di k),.int .i64 n] W fun e w'=>∃ (k' i:Int) (f1 f2:Bool) (s1 s2:Sl),e=.returned (⟨k',f1,s1.val,f2,s2.val,i⟩:Vv).agg/\VlN W.heap.size w' (wV (Di k) n) ⟨k',f1,s1.val,f2,s2.val,i⟩/\Below W.heap.size W w':=qok (Di k) (wT k) n (by omega)
   have Up:=Aa Hj;have Lw:=Aa qu2;clear Hj hn qu2 mV
   go_upto_region 20 with fail
   go_quiet (fail)
   generalize qql:(if c1=1 then some (⟨b2,o2,none⟩:Addr)else some ⟨b2,o2+1,none⟩)=ra2
   have qhq:=Lw.out;rw[qql]at qhq
   generalize Qe:w4.drewN _=Wr
   have qn0:Hid (U8s K Wr (.slice ra2 r'.length (c1-1)) r'):=Aa (by rw[<- Qe];exact qhq);have qyw:Hid (Below B w Wr):=Aa (by rw[<- Qe];exact Gn Ei.out _);have zb7:Hid (Blk Wr B xz.cells 43):=Aa (by rw[<- Qe];exact Io.out);have qwd:Hid (Blk Wr S Xs.cells 43):=Aa (by rw[<- Qe];exact yQ.out);have qo4:Hid (ExN (B+1) Wr (Fq k) Xs):=Aa (by rw[<- Qe];exact iU.out.move (An.of (Gn (Below.refl _ _) _)))
   have sw4':S+1<=Wr.heap.size:=by rw[<- Qe];exact sw4
   clear Ei Io yQ iU sw4 Qe qhq qql Fi
   go_upto_region 21 with fail
   have Vw:=qg1 k Wr yH;go_wp2_with fail
   refine Vw.mono ?_;rintro e w5 ⟨rfl,Aq⟩;have Kg:=Aq.size;go_wp2_with fail
   refine(Up.out w5).mono ?_;rintro e w6 ⟨kk,ii,f1,f2,s1,s2,rfl,Mr,Bk⟩;have Nt:=Bk.size;have cV:=qh9 kk f1 f2 s1 s2 ii w6;go_wp2_with fail
   refine cV.mono ?_;rintro e w7 ⟨rfl,Ct⟩;have gE:=Ct.size;clear Vw cV;have Ox:=tJ (v:=wV (Di k) n) (Mr.move (An.of Ct));obtain⟨a1,n1,m1⟩:=s1;obtain⟨a2,n2,m2⟩:=s2
   have tP:∀ u∈(Ch kk f1 ⟨a1,n1,m1⟩ f2 ⟨a2,n2,m2⟩ ii).cells,u.oneCell'=true:=by simp[Value.oneCell']
   go_upto_region 22 with(refine Iu rfl 43 (.tmp 14) (.tmp 100) rfl (Ch kk f1 ⟨a1,n1,m1⟩ f2 ⟨a2,n2,m2⟩ ii).cells _ Bm rfl tP w7.heap.size rfl rfl rfl ?_)
   obtain⟨W8,G8⟩:=Ae (w7.alloc (.cells (Ch kk f1 ⟨a1,n1,m1⟩ f2 ⟨a2,n2,m2⟩ ii).cells 43));obtain⟨T,hT⟩:=Ae w7.heap.size
   have b78:Below w7.heap.size w7 W8:=by rw[<- G8];exact Af _ _
   have b48:Below Wr.heap.size Wr W8:=Aq.trans ((Bk.mono (by omega)).trans ((Ct.mono (by omega)).trans (b78.mono (by omega))));have q8:=zb7.out.below b48 (by omega);have qs8:=qwd.out.below b48 (by omega)
   have qt8:Blk W8 T (Ch kk f1 ⟨a1,n1,m1⟩ f2 ⟨a2,n2,m2⟩ ii).cells 43:=by rw[<- G8,<- hT];exact Blk.new w7 _ _
   have T8:=Aa (qn0.out.below (K':=K) b48 (by omega) (Ab _));have Rm:=Aa (qyw.out.trans (b48.mono (by omega)));have aI:=Aa (qo4.out.move (An.of b48));have Ux:=Aa ((Ox.move (An.of b78)).mono (by omega:B+1<=w5.heap.size))
   have s8:W8.heap.size=T+1:=by rw[<- G8,<- hT];simp
   have sT:S+1<=T:=by omega
   have qke:=Aa G8;have HT:=Aa hT;simp only[HT.out];rw[qke.out];clear Mr Ox Aq Bk Ct b78 b48 qn0 qyw qo4 zb7 qwd G8 hT Kg Nt gE;have Ih:=qs8.range;have Gt:=qt8.range;obtain⟨m,hm⟩:=Ae (x%4)
   have D7:(x:Int)%4=(m:Int):=by omega
   have cG:m=0\/m=1\/m=2\/m=3:=by omega
   rcases cG with rfl | rfl | rfl | rfl
   ·have Gv:Hid (Rs=(Gx.mk 13 [] v0 [(Fq k),(Kv (wV (Di k) n))],r')):=Aa (by rw[Ml.out];unfold Lc;rw[hk,if_pos (by omega),if_pos (by omega)])
    obtain⟨W9,Cf⟩:=Ae (W8.alloc (.cells (Cq Xs (Ch kk f1 ⟨a1,n1,m1⟩ f2 ⟨a2,n2,m2⟩ ii)) 43))
    have b89:Below W8.heap.size W8 W9:=by rw[<- Cf];exact Af _ _
    have q9:Blk W9 (T+1) (Cq Xs (Ch kk f1 ⟨a1,n1,m1⟩ f2 ⟨a2,n2,m2⟩ ii)) 43:=by
     have := Blk.new W8 (Cq Xs (Ch kk f1 ⟨a1,n1,m1⟩ f2 ⟨a2,n2,m2⟩ ii)) 43;rwa[Cf,s8]at this
    have s9:W9.heap.size=T+2:=by rw[<- Cf,World.size_alloc,s8]
    have Dc:=C9 13 ⟨some ⟨T+1,0,none⟩,2,2⟩ W9;have Hs:=Aa Cf;dsimp only[Cq,Ch]at Hs;clear Cf hm
    go_wp2_with (first
     | (refine wpList_load_mid rfl 43 (.tmp 12) rfl S 0 rfl Xs.cells.toList _ Ih Tryz.underlying43 rfl Bm ?_)
     | (refine wpList_load_mid rfl 43 (.tmp 14) rfl T 0 rfl (Ch kk f1 ⟨a1,n1,m1⟩ f2 ⟨a2,n2,m2⟩ ii).cells.toList _ Gt Tryz.underlying43 rfl Bm ?_))
    rw[Hs.out];refine Dc.mono ?_;rintro e w10 ⟨rfl,Ci⟩;have q10:=(q8.below b89 (by omega)).below Ci (by omega)
    have Oy:∀ u∈(opX 13 ⟨some ⟨T+1,0,none⟩,2,2⟩).cells,u.oneCell'=true:=by simp[Value.oneCell']
    clear Dc;go_wp2_with (refine Gu rfl 43 43 (.tmp 4) (.tmp 108) rfl (opX 13 ⟨some ⟨T+1,0,none⟩,2,2⟩).cells _ B q10 Bm rfl Oy rfl rfl ?_;intro It t1 t2 t3 t4)
    refine bodyPost_ret (Xx rfl _ _ B _ _ t1 rfl Tryz.underlying43 rfl Bm) rfl ?_;rw[Gv.out];have w89:An (B+1) W8 It:=(An.of b89).trans ((An.of Ci).trans (An.put t3 (by omega)));have w91:An (B+1) W9 It:=(An.of Ci).trans (An.put t3 (by omega));exact⟨_,_,rfl,(I9 (w91.blk (by omega) q9) (by omega) (aI.out.move w89) (Ux.out.move w89)).mono (by omega),((T8.out.below (K':=K) b89 (by omega) (Ab _)).below (K':=K) Ci (by omega) (Ab _)).below (t2 B (Ab _)) (by omega) (Ab _),Rm.out.trans ((b89.mono (by omega)).trans ((Ci.mono (by omega)).trans (t2 B (Ab _))))⟩
   ·have Gv:Hid (Rs=(Gx.mk 13 [] v0 [(Kv (wV (Di k) n)),(Fq k)],r')):=Aa (by rw[Ml.out];unfold Lc;rw[hk,if_pos (by omega),if_neg (by omega)])
    obtain⟨W9,Cf⟩:=Ae (W8.alloc (.cells (Cq (Ch kk f1 ⟨a1,n1,m1⟩ f2 ⟨a2,n2,m2⟩ ii) Xs) 43))
    have b89:Below W8.heap.size W8 W9:=by rw[<- Cf];exact Af _ _
    have q9:Blk W9 (T+1) (Cq (Ch kk f1 ⟨a1,n1,m1⟩ f2 ⟨a2,n2,m2⟩ ii) Xs) 43:=by
     have := Blk.new W8 (Cq (Ch kk f1 ⟨a1,n1,m1⟩ f2 ⟨a2,n2,m2⟩ ii) Xs) 43;rwa[Cf,s8]at this
    have s9:W9.heap.size=T+2:=by rw[<- Cf,World.size_alloc,s8]
    have Dc:=C9 13 ⟨some ⟨T+1,0,none⟩,2,2⟩ W9;have Hs:=Aa Cf;dsimp only[Cq,Ch]at Hs;clear Cf hm
    go_wp2_with (first
     | (refine wpList_load_mid rfl 43 (.tmp 14) rfl T 0 rfl (Ch kk f1 ⟨a1,n1,m1⟩ f2 ⟨a2,n2,m2⟩ ii).cells.toList _ Gt Tryz.underlying43 rfl Bm ?_)
     | (refine wpList_load_mid rfl 43 (.tmp 12) rfl S 0 rfl Xs.cells.toList _ Ih Tryz.underlying43 rfl Bm ?_))
    rw[Hs.out];refine Dc.mono ?_;rintro e w10 ⟨rfl,Ci⟩;have q10:=(q8.below b89 (by omega)).below Ci (by omega)
    have Oy:∀ u∈(opX 13 ⟨some ⟨T+1,0,none⟩,2,2⟩).cells,u.oneCell'=true:=by simp[Value.oneCell']
    clear Dc;go_wp2_with (refine Gu rfl 43 43 (.tmp 4) (.tmp 115) rfl (opX 13 ⟨some ⟨T+1,0,none⟩,2,2⟩).cells _ B q10 Bm rfl Oy rfl rfl ?_;intro It t1 t2 t3 t4)
    refine bodyPost_ret (Xx rfl _ _ B _ _ t1 rfl Tryz.underlying43 rfl Bm) rfl ?_;rw[Gv.out];have w89:An (B+1) W8 It:=(An.of b89).trans ((An.of Ci).trans (An.put t3 (by omega)));have w91:An (B+1) W9 It:=(An.of Ci).trans (An.put t3 (by omega));exact⟨_,_,rfl,(I9 (w91.blk (by omega) q9) (by omega) (Ux.out.move w89) (aI.out.move w89)).mono (by omega),((T8.out.below (K':=K) b89 (by omega) (Ab _)).below (K':=K) Ci (by omega) (Ab _)).below (t2 B (Ab _)) (by omega) (Ab _),Rm.out.trans ((b89.mono (by omega)).trans ((Ci.mono (by omega)).trans (t2 B (Ab _))))⟩
   ·have Gv:Hid (Rs=(Gx.mk 14 [] v0 [(Fq k),(Kv (wV (Di k) n))],r')):=Aa (by rw[Ml.out];unfold Lc;rw[hk,if_neg (by omega),if_pos (by omega)])
    obtain⟨W9,Cf⟩:=Ae (W8.alloc (.cells (Cq Xs (Ch kk f1 ⟨a1,n1,m1⟩ f2 ⟨a2,n2,m2⟩ ii)) 43))
    have b89:Below W8.heap.size W8 W9:=by rw[<- Cf];exact Af _ _
    have q9:Blk W9 (T+1) (Cq Xs (Ch kk f1 ⟨a1,n1,m1⟩ f2 ⟨a2,n2,m2⟩ ii)) 43:=by
     have := Blk.new W8 (Cq Xs (Ch kk f1 ⟨a1,n1,m1⟩ f2 ⟨a2,n2,m2⟩ ii)) 43;rwa[Cf,s8]at this
    have s9:W9.heap.size=T+2:=by rw[<- Cf,World.size_alloc,s8]
    have Dc:=C9 14 ⟨some ⟨T+1,0,none⟩,2,2⟩ W9;have Hs:=Aa Cf;dsimp only[Cq,Ch]at Hs;clear Cf hm
    go_wp2_with (first
     | (refine wpList_load_mid rfl 43 (.tmp 12) rfl S 0 rfl Xs.cells.toList _ Ih Tryz.underlying43 rfl Bm ?_)
     | (refine wpList_load_mid rfl 43 (.tmp 14) rfl T 0 rfl (Ch kk f1 ⟨a1,n1,m1⟩ f2 ⟨a2,n2,m2⟩ ii).cells.toList _ Gt Tryz.underlying43 rfl Bm ?_))
    rw[Hs.out];refine Dc.mono ?_;rintro e w10 ⟨rfl,Ci⟩;have q10:=(q8.below b89 (by omega)).below Ci (by omega)
    have Oy:∀ u∈(opX 14 ⟨some ⟨T+1,0,none⟩,2,2⟩).cells,u.oneCell'=true:=by simp[Value.oneCell']
    clear Dc;go_wp2_with (refine Gu rfl 43 43 (.tmp 4) (.tmp 122) rfl (opX 14 ⟨some ⟨T+1,0,none⟩,2,2⟩).cells _ B q10 Bm rfl Oy rfl rfl ?_;intro It t1 t2 t3 t4)
    refine bodyPost_ret (Xx rfl _ _ B _ _ t1 rfl Tryz.underlying43 rfl Bm) rfl ?_;rw[Gv.out];have w89:An (B+1) W8 It:=(An.of b89).trans ((An.of Ci).trans (An.put t3 (by omega)));have w91:An (B+1) W9 It:=(An.of Ci).trans (An.put t3 (by omega));exact⟨_,_,rfl,(I9 (w91.blk (by omega) q9) (by omega) (aI.out.move w89) (Ux.out.move w89)).mono (by omega),((T8.out.below (K':=K) b89 (by omega) (Ab _)).below (K':=K) Ci (by omega) (Ab _)).below (t2 B (Ab _)) (by omega) (Ab _),Rm.out.trans ((b89.mono (by omega)).trans ((Ci.mono (by omega)).trans (t2 B (Ab _))))⟩
   ·have Gv:Hid (Rs=(Gx.mk 14 [] v0 [(Kv (wV (Di k) n)),(Fq k)],r')):=Aa (by rw[Ml.out];unfold Lc;rw[hk,if_neg (by omega),if_neg (by omega)])
    obtain⟨W9,Cf⟩:=Ae (W8.alloc (.cells (Cq (Ch kk f1 ⟨a1,n1,m1⟩ f2 ⟨a2,n2,m2⟩ ii) Xs) 43))
    have b89:Below W8.heap.size W8 W9:=by rw[<- Cf];exact Af _ _
    have q9:Blk W9 (T+1) (Cq (Ch kk f1 ⟨a1,n1,m1⟩ f2 ⟨a2,n2,m2⟩ ii) Xs) 43:=by
     have := Blk.new W8 (Cq (Ch kk f1 ⟨a1,n1,m1⟩ f2 ⟨a2,n2,m2⟩ ii) Xs) 43;rwa[Cf,s8]at this
    have s9:W9.heap.size=T+2:=by rw[<- Cf,World.size_alloc,s8]
    have Dc:=C9 14 ⟨some ⟨T+1,0,none⟩,2,2⟩ W9;have Hs:=Aa Cf;dsimp only[Cq,Ch]at Hs;clear Cf hm
    go_wp2_with (first
     | (refine wpList_load_mid rfl 43 (.tmp 14) rfl T 0 rfl (Ch kk f1 ⟨a1,n1,m1⟩ f2 ⟨a2,n2,m2⟩ ii).cells.toList _ Gt Tryz.underlying43 rfl Bm ?_)
     | (refine wpList_load_mid rfl 43 (.tmp 12) rfl S 0 rfl Xs.cells.toList _ Ih Tryz.underlying43 rfl Bm ?_))
    rw[Hs.out];refine Dc.mono ?_;rintro e w10 ⟨rfl,Ci⟩;have q10:=(q8.below b89 (by omega)).below Ci (by omega)
    have Oy:∀ u∈(opX 14 ⟨some ⟨T+1,0,none⟩,2,2⟩).cells,u.oneCell'=true:=by simp[Value.oneCell']
    clear Dc;go_wp2_with (refine Gu rfl 43 43 (.tmp 4) (.tmp 127) rfl (opX 14 ⟨some ⟨T+1,0,none⟩,2,2⟩).cells _ B q10 Bm rfl Oy rfl rfl ?_;intro It t1 t2 t3 t4)
    refine bodyPost_ret (Xx rfl _ _ B _ _ t1 rfl Tryz.underlying43 rfl Bm) rfl ?_;rw[Gv.out];have w89:An (B+1) W8 It:=(An.of b89).trans ((An.of Ci).trans (An.put t3 (by omega)));have w91:An (B+1) W9 It:=(An.of Ci).trans (An.put t3 (by omega));exact⟨_,_,rfl,(I9 (w91.blk (by omega) q9) (by omega) (Ux.out.move w89) (aI.out.move w89)).mono (by omega),((T8.out.below (K':=K) b89 (by omega) (Ab _)).below (K':=K) Ci (by omega) (Ab _)).below (t2 B (Ab _)) (by omega) (Ab _),Rm.out.trans ((b89.mono (by omega)).trans ((Ci.mono (by omega)).trans (t2 B (Ab _))))⟩
end Go.Proofs.YtlldjmagbjjeoaaGreatDoor
