/- Contracts and plain laws, several texts in one (DTst, DVal). No conditions beyond those stated. -/
import Derived.Test.YtlldjmagbjjeoaaGreatDoorPk32
set_option maxRecDepth 100000
set_option maxHeartbeats 40000000
namespace Go.Proofs.YtlldjmagbjjeoaaGreatDoor
open Go.RowKit
set_option linter.unusedVariables false
theorem Xh:(Tryz.prog.info? 43).map (fun i=>i.size)=some 9:=by kernel_rfl
theorem zrb (bb:Nat) (sv pv:Sl) (scs:List Sc) (gv:Nat->Value) (e:Gx) (xv:Xv) (w:World) (h:BC bb sv pv scs gv w.heap.size w) (Ay:kH scs) (he:ExG w.heap.size w e xv) (hg:e.good=true) (Tm:scs.length<=2^20) :
  Calls Tryz.prog 72 #[.pointer (some ⟨bb,0,none⟩),xv.agg] w fun en w'=>∃ u,en=.returned u/\Zed (Btw w.heap.size w'.heap.size) w' (Ty (Cu (pcs scs)) (fun cs=>evT scs cs e) u)/\Below w.heap.size w w':=by
 obtain⟨W1,Ah⟩:=Ae (w.alloc (.cells xv.cells 43))
 have b1:Below w.heap.size w W1:=by rw[<- Ah];exact Af _ _
 have q1:Blk W1 w.heap.size xv.cells 43:=by rw[<- Ah];exact Blk.new w _ _
 have s1:W1.heap.size=w.heap.size+1:=by rw[<- Ah];simp
 have Qi:=h.below b1 (Ab _) b1.size;have Za:=he.below b1 (Ab _) b1.size;obtain⟨T,hT⟩:=Ae w.heap.size;have HT:=Aa hT;have HW:=Aa Ah;dsimp only[Xv.cells]at HW;rw[hT]at b1 q1 s1 ⊢;obtain⟨n,hn⟩:=Ae scs.length;rw[hn]at Tm;obtain⟨sa,sm,zM,X8,Hm⟩:=Qi.s.form;obtain⟨pa,pm,Mw,En,Vj⟩:=Au.form Qi.p;rw[hn]at zM X8 Mw En;obtain⟨cs,hq,Iq,Vs⟩:=Qi.blk;rw[zM]at Iq;rw[Mw]at Vs;have c0:W1.cell? ⟨bb,0,none⟩=some (.slice sa n sm):=hq.at Iq;have c5:W1.cell? ⟨bb,5,none⟩=some (.slice pa n pm):=hq.at Vs;have Jj:=hq.lt;have aL:=Aa Qi;have fM:=Aa Za;have HN:=Aa hn;have qyv:=Aa zM;have zeb:=Aa Mw;have J5:=Aa Ay;have Bi:=Aa b1;have Bc:=Aa q1;unfold maxLen at Hm Vj;clear h Ay he hT Ah Qi Za hn zM Mw hq Iq Vs b1 q1;dsimp only[Xv.agg];go_enter Tryz.func72,Tryz.ntmps72
 go_upto_region 1 with fail
 simp only[HT.out];rw[HW.out];go_wp2_with fail
 go_loopw [20] (fun iv wr=>∃ (i:Nat),i<=n/\iv=.int .i64 i/\Below W1.heap.size W1 wr/\∀ j,j<i->oQ e (scs[j]?.getD default)=false) (fun iv _=>n-(intOf iv).toNat)
 case atStart=>exact⟨0,Nat.zero_le _,rfl,Below.refl _ _,fun j hj=>absurd hj (Nat.not_lt_zero j)⟩
 case round =>
  obtain⟨i,hi,rfl,Cs,Eg⟩:=hrel;obtain⟨wo,rfl⟩:∃ wo:World,wo=wr:=⟨_,rfl⟩;have Cm:=Aa Cs;have Lk:=Aa Eg;have Jl:=Cs.size;clear Eg
  by_cases Aj:i<n
  ·obtain⟨s,hs⟩:=Ae (scs[i]?.getD default)
   have Cr:i<scs.length:=by rw[HN.out];exact Aj
   have qx0:s∈scs:=by rw[<- hs,Ac Cr];exact List.getElem_mem Cr
   obtain⟨k1,k2,k3,k4⟩:=J5.out s qx0;obtain⟨sb,so,sc',Nh,_,_,zyj⟩:=(by obtain⟨g,h1,_⟩:=aL.out.s;have := h1.pos (by omega);rw[HN.out,qyv.out]at this;obtain⟨b,o,cap,h1,h2,h3,h4,_⟩:=this;exact⟨b,o,cap,h1,h2,h3,h4⟩:∃ b o cap,(Value.slice sa n sm)=.slice (some ⟨b,o,none⟩) n cap/\n<=cap/\cap<=maxLen/\b<W1.heap.size);simp only[Value.slice.injEq,true_and]at Nh;obtain⟨rfl,rfl⟩:=Nh;obtain⟨pb,po,pc',Nk,_,_,eM,Pj⟩:=(by have := aL.out.p;rw[HN.out,zeb.out]at this;exact Au.pos this (by omega):∃ b o cap,(Value.slice pa n pm)=.slice (some ⟨b,o,none⟩) n cap/\n<=cap/\cap<=maxLen/\b<W1.heap.size/\∀ i,i<n->∀ j,j<1->W1.cell? ⟨b,o+(i*1+j),none⟩=some (gv i));simp only[Value.slice.injEq,true_and]at Nk;obtain⟨rfl,rfl⟩:=Nk;have We:=aL.out.pn i Cr;rw[hs]at We;have To:0<(Bf s).length:=List.length_pos_iff.2 k3;obtain⟨gb,go',gc,Of,_,p9,P9,qd8⟩:=We.pos To;obtain⟨m,hm⟩:=Ae ((Bf s).length);rw[hm]at To Of qd8
   have aM:∀ c∈Bf s,c<=(Bf s)[(Bf s).length-1]?.getD 0:=fun c hc=>zvt (qpo s) hc
   obtain⟨la,Bh⟩:=Ae ((Bf s)[(Bf s).length-1]?.getD 0);rw[Bh]at aM;rw[hm]at Bh
   have jaz:la<=2^30:=by rw[<- Bh];exact k4 _ (by rw[Ac (by omega)];exact List.getElem_mem _)
   obtain⟨W2,Ax⟩:=Ae (wo.alloc (.cells #[.int .i64 (i:Int)] 3))
   have b2:Below wo.heap.size wo W2:=by rw[<- Ax];exact Af _ _
   have q2:Blk W2 wo.heap.size #[.int .i64 (i:Int)] 3:=by rw[<- Ax];exact Blk.new wo _ _
   have s2:W2.heap.size=wo.heap.size+1:=by rw[<- Ax];simp
   have b12:Below W1.heap.size W1 W2:=Cs.trans (b2.mono Jl);have d0:=(b12.cell (p:=⟨bb,0,none⟩) Jj).trans c0;have d5:=(b12.cell (p:=⟨bb,5,none⟩) Jj).trans c5;have e1:W2.cell? ⟨pb,po+i,none⟩=some (.slice (some ⟨gb,go',none⟩) m gc):=(b12.cell (p:=⟨pb,po+i,none⟩) eM).trans (by have := Pj i Aj 0 (by omega);rw[Of]at this;simpa using this);have e2:W2.cell? ⟨gb,go'+(m-1),none⟩=some (.int .i64 la):=(b12.cell (p:=⟨gb,go'+(m-1),none⟩) P9).trans (by have := qd8 (m-1) (by omega);rw[Bh]at this;exact this);have e3:W2.cell? ⟨wo.heap.size,0,none⟩=some (.int .i64 i):=q2.at rfl;have zyz:IntKind.i64.wrap ((i:Int)+1)=(i:Int)+1:=IntWalk.i64_in _ (by omega)
   have qgq:IntKind.i64.wrap ((m:Int)-1)=((m-1:Nat):Int):=by rw[show((m-1:Nat):Int)=(m:Int)-1 by omega];exact IntWalk.i64_in _ (by unfold maxLen at p9;omega)
   obtain⟨l1,Jy⟩:=Ae (la+1)
   have zym:IntKind.i64.wrap ((la:Int)+1)=(l1:Int):=by rw[show(l1:Int)=(la:Int)+1 by omega];exact IntWalk.i64_in _ (by omega)
   have Fs:=ze7 l1 (by omega);have Im:=Aa Ax;have lB:=Aa We;have P8:=Aa Of;have HM:=Aa hm;have sR:=Aa aM
   have zzn:m<=9223372036854775807:=by have := We.form;obtain⟨_,cc,_,h1,h2⟩:=this;unfold maxLen at h2;omega
   have HS:=Aa hs;have HK:=Aa (And.intro k1 (And.intro k2 k4));clear Cs Pj We Of qd8 hm aM Bh Ax hs k1 k2 k3 k4 qx0 Cr
   go_upto_region 4 with fail
   rw[Im.out];go_quiet (fail)
   generalize Cn:World.drewN W2 _=W3
   have b3:Below W2.heap.size W2 W3:=by rw[<- Cn];exact Gn (Below.refl _ _) _
   have s3:W3.heap.size=W2.heap.size:=by rw[<- Cn];rfl
   have b13:Below W1.heap.size W1 W3:=b12.trans (b3.mono b12.size);have d5:=(b3.cell (p:=⟨bb,5,none⟩) (Nat.lt_of_lt_of_le Jj b12.size)).trans d5;have e1:=(b3.cell (p:=⟨pb,po+i,none⟩) (Nat.lt_of_lt_of_le eM b12.size)).trans e1;have e2:=(b3.cell (p:=⟨gb,go'+(m-1),none⟩) (Nat.lt_of_lt_of_le P9 b12.size)).trans e2;have e3:=(b3.cell (p:=⟨wo.heap.size,0,none⟩) (show wo.heap.size<W2.heap.size by omega)).trans e3;have q3:=q2.below b3 q2.lt;clear Cn Im d0 q2
   go_upto_region 5 with fail
   go_quiet (fail)
   generalize Fc:World.drewN W3 _=W4
   have b4:Below W3.heap.size W3 W4:=by rw[<- Fc];exact Gn (Below.refl _ _) _
   have s4:W4.heap.size=W3.heap.size:=by rw[<- Fc];rfl
   have b14:Below W1.heap.size W1 W4:=b13.trans (b4.mono b13.size);have e2:=(b4.cell (p:=⟨gb,go'+(m-1),none⟩) (Nat.lt_of_lt_of_le P9 b13.size)).trans e2;have q4:=q3.below b4 q3.lt;obtain⟨R,hR⟩:=Ae W4.heap.size;have HR:=Aa hR;obtain⟨W5,Ez⟩:=Ae ((W4.alloc (.cells (Kf l1 fun _=>.bool false) 4)).alloc (.cells #[.slice (some ⟨W4.heap.size,0,none⟩) l1 l1] 146))
   have b5:Below R W4 W5:=by rw[<- Ez,<- hR];exact(Af _ _).alloc (by simp) _
   have r5:Blk W5 R (Kf l1 fun _=>.bool false) 4:=by rw[<- Ez,<- hR];exact(Blk.new W4 _ _).alloc _
   have t5:Blk W5 (R+1) #[.slice (some ⟨R,0,none⟩) l1 l1] 146:=by
    rw[<- Ez,<- hR];have := Blk.new (W4.alloc (.cells (Kf l1 fun _=>.bool false) 4)) #[.slice (some ⟨W4.heap.size,0,none⟩) l1 l1] 146;rwa[World.size_alloc]at this
   have s5:W5.heap.size=R+2:=by rw[<- Ez,<- hR];simp
   have Wb:=Aa Ez;have s14:=b14.size;have SS:=Aa (And.intro s2 (And.intro s3 s4));clear Fc d5 e1 e3 q3 Ez b2 b3 b4 b12 b13 s2 s3 s4 hR;go_wp2_with fail
   rw[Wb.out];rw[HR.out];have hR:=HR.out;obtain⟨s2,s3,s4⟩:=SS.out;obtain⟨hF,qx8⟩:∃ hF:Nat->Bool,(fun c:Nat=>(Lp e [s] [(c:Int)]).1)=hF:=⟨_,rfl⟩
   have qsu:Hid (∀ c:Nat,(Lp e [s] [(c:Int)]).1=hF c):=Aa fun c=>by rw[<- qx8]
   have q5:=q4.below b5 (by omega);have Yw:=Aa b14;have Hf:=Aa b5;have Io:=Aa q4
   have s14R:W1.heap.size<=R:=by omega
   have zzr:wo.heap.size<R:=by omega
   clear hR qx8 e2 b14 b5 Wb s2 s3 s4
   go_loopw [9,49] (fun bv iv wr=>∃ (j:Nat),j<=m/\bv=.bool true/\iv=.int .i64 j/\Below R W4 wr/\R+2<=wr.heap.size/\Blk wr R (Kf l1 (R0 ((Bf s).take j) hF)) 4/\Blk wr (R+1) #[.slice (some ⟨R,0,none⟩) l1 l1] 146 ∧
    Hid (∀ c∈(Bf s).take j,(Lp e [s] [(c:Int)]).2=0)) (fun _ iv _=>m-(intOf iv).toNat)
   case atStart=>exact⟨0,Nat.zero_le _,rfl,rfl,Hf.out,by omega,r5,t5,Aa fun c hc=>by simp at hc⟩
   case round =>
    obtain⟨j,hj,rfl,rfl,Xo,jaj,rj,tj,Ld⟩:=hrel;obtain⟨wi,rfl⟩:∃ wi:World,wi=wr:=⟨_,rfl⟩;have b1i:Below W1.heap.size W1 wi:=Yw.out.trans (Xo.mono (by omega));have E9:=Aa Xo;have zso:=Aa rj;have qsn:=Aa tj;have qr1:=Aa b1i;have s1i:=b1i.size
    by_cases qqo:j<m
    ·have We:=lB.out
     obtain⟨c,Em⟩:∃ c,(Bf s)[j]?=some c:=⟨_,Ac (by rw[HM.out];exact qqo)⟩;obtain⟨gb',go2,gc',qlp,_,_,zh6,qm7⟩:=We.pos (by rw[HM.out];omega);rw[P8.out,HM.out]at qlp;simp only[Value.slice.injEq,Option.some.injEq,Addr.mk.injEq,and_true,true_and]at qlp;obtain⟨⟨rfl,rfl⟩,rfl⟩:=qlp;have e4:wi.cell? ⟨gb,go'+j,none⟩=some (.int .i64 (c:Int)):=(b1i.cell (p:=⟨gb,go'+j,none⟩) zh6).trans (by have := qm7 j (by rw[HM.out];exact qqo);rw[Em]at this;exact this);have Ba:c<=la:=sR.out c (List.mem_of_getElem? Em);have iS:=Bc.out.below b1i (by omega);have Ok:wi.rangeAt T 0 xv.cells.toList:=iS.range;obtain⟨W6,Fk⟩:=Ae (wi.alloc (.cells #[.int .i64 (c:Int)] 3))
     have b6:Below wi.heap.size wi W6:=by rw[<- Fk];exact Af _ _
     have q6:Blk W6 wi.heap.size #[.int .i64 (c:Int)] 3:=by rw[<- Fk];exact Blk.new wi _ _
     have b16:Below W1.heap.size W1 W6:=b1i.trans (b6.mono s1i)
     have Ql:Mo W1.heap.size W1 (.slice (some ⟨sb,so+i*11,none⟩) 1 (sm-i)) [s]:=by
      have := aL.out.s;rw[qyv.out]at this;have h2:=Mo.one this HN.out Aj (c:=sm-i) (by omega) (by unfold maxLen;omega);rwa[HS.out]at h2
     have Ik:Re W6.heap.size W6 (.slice (some ⟨wi.heap.size,0,none⟩) 1 1) [(c:Int)]:=Au.mk_cells (n:=1) (Ab _) (by simp[maxLen]) q6.lt fun k hk jj qkd=>by
      have On:k=0:=by omega
      have Jb:jj=0:=by omega
      subst On;subst Jb;exact q6.at rfl
     have fJ:=zaf W6.heap.size e xv [s] _ [(c:Int)] _ W6 (fM.out.below b16 (Ab _) b16.size) hg (Ql.below b16 (Ab _) b16.size) Ik (Ab _) (fun s' Qz=>by rw[List.mem_singleton.1 Qz];exact HK.out.1) (fun s' Qz=>by rw[List.mem_singleton.1 Qz];exact HK.out.2.1);have qf7:=qsu.out c;obtain⟨r,hr⟩:=Ae (Lp e [s] [(c:Int)]);rw[hr]at fJ qf7;have fO:=Aa fJ;have Ml:=Aa hr;have qhy:=Aa qf7;have aF:=Aa Fk;have Kj:=Aa Em;have B5:=Aa b6;dsimp only[Xv.agg,Xv.cells]at fO;clear We Em qm7 iS Ql Ik fJ hr qf7 Fk b16 Xo rj tj b1i b6 q6;go_wp2_with (refine wpList_load_mid rfl 43 (.tmp 3) rfl T 0 rfl xv.cells.toList _ Ok Tryz.underlying43 rfl Xh ?_)
     rw[aF.out];refine fO.out.mono ?_;clear fO Ok e4;rintro en w7 ⟨rfl,Ct⟩;have Ta:Below wi.heap.size wi w7:=B5.out.trans (Ct.mono B5.out.size);have E7:=Aa Ta;have s7:=Ta.size;have r7:=zso.out.below Ta (by omega);have t7:=qsn.out.below Ta (by omega);obtain⟨r1,r2⟩:=r;dsimp only at qhy Ml ⊢
     by_cases hz:r2=0
     ·subst hz
      have u0:w7.cell? ⟨R+1,0,none⟩=some (.slice (some ⟨R,0,none⟩) l1 l1):=t7.at rfl;have u1:w7.cell? ⟨R,c,none⟩=some (R0 ((Bf s).take j) hF c):=r7.at (wD _ (by omega));have u2:w7.frozen? ⟨R,c,none⟩=false:=r7.free c
      have jac:c<l1:=by omega
      have rz:Blk (w7.setCell ⟨R,c,none⟩ (.bool r1)) R (Kf l1 (R0 ((Bf s).take (j+1)) hF)) 4:=by
       have := r7.set (i:=c) (.bool r1);rw[show r1=hF c from qhy.out,zom]at this;rw[Q0 Kj.out];rwa[show r1=hF c from qhy.out]
      have tz:Blk (w7.setCell ⟨R,c,none⟩ (.bool r1)) (R+1) #[.slice (some ⟨R,0,none⟩) l1 l1] 146:=t7.other (by omega) _;have bz:Below R W4 (w7.setCell ⟨R,c,none⟩ (.bool r1)):=(E9.out.trans (Ta.mono (by omega))).setCell (p:=⟨R,c,none⟩) (Ab _) _
      have iA:Hid (∀ c∈(Bf s).take (j+1),(Lp e [s] [(c:Int)]).2=0):=Aa fun c' Iz=>by
       rw[Q0 Kj.out]at Iz
       rcases List.mem_append.1 Iz with Iz | Iz
       ·exact Ld.out c' Iz
       ·rw[List.mem_singleton.1 Iz,Ml.out]
      have zsl:=Aa rz;have zrf:=Aa tz;have zm4:=Aa bz;clear rz tz bz r7 t7 Ct Ta;go_wp2_with fail
      exact⟨⟨j+1,by omega,rfl,by go_num,zm4.out,by simp[World.setCell];omega,zsl.out,zrf.out,iA⟩,by simp[intOf];omega⟩
     ·have At:(r2 != 0)=true:=by simpa using hz
      have Q8:Hid (∀ k,k<i+1->oQ e (scs[k]?.getD default)=false):=Aa fun k hk=>by
       by_cases Mp:k<i
       ·exact Lk.out k Mp
       ·obtain rfl:k=i:=by omega
        rw[HS.out];unfold oQ;rw[List.all_eq_false];exact⟨c,List.mem_of_getElem? Kj.out,by rw[Ml.out];simpa using hz⟩
      have qxr:Below W1.heap.size W1 w7:=qr1.out.trans (Ta.mono s1i);have zna:=Aa qxr;clear r7 t7 Ct Ta qxr hz;go_wp2_with fail
      exact⟨⟨i+1,by omega,by go_num,zna.out,Q8.out⟩,by simp[intOf];omega⟩
    ·obtain rfl:j=m:=by omega
     have Ea:(Bf s).take j=Bf s:=List.take_of_length_le (by rw[HM.out];exact Ab _);rw[Ea]at rj;have Ht:=Ld.out;rw[Ea]at Ht;have q6:=Io.out.below Xo (by omega);have aY:=Aa q6
     have Ke:mU scs e=i:=by
      unfold mU
      have Cr:i<scs.length:=by rw[HN.out];exact Aj
      rw[List.findIdx_eq Cr]
      have P0:scs[i]=s:=by have := HS.out;rw[Ac Cr]at this;exact this
      refine⟨?_,fun k hk=>?_⟩
      ·rw[P0]
       unfold oQ;rw[List.all_eq_true];intro c hc
       rw[Ht c hc];rfl
      ·have := Lk.out k hk
       rwa[Ac (by omega)]at this
     have xR:=Aa Ke;have zt6:=Aa rj;clear Ke Ht Ea rj tj Xo q6 b1i;go_wp2_with fail
     go_ret
     refine⟨_,rfl,fun W K ha hK=>?_,Bi.out.trans (qr1.out.mono (by omega))⟩
     have Rc:∀ b,T<=b->b<wi.heap.size->Btw T wi.heap.size b:=fun b h1 h2=>⟨h1,h2⟩
     have z1:Blk W (R+1) #[.slice (some ⟨R,0,none⟩) l1 l1] 146:=ha _ _ (Rc _ (by omega) (by omega)) qsn.out rfl;have z2:Blk W R (Kf l1 (R0 (Bf s) hF)) 4:=ha _ _ (Rc _ (by omega) (by omega)) zt6.out rfl;have z3:Blk W wo.heap.size #[.int .i64 (i:Int)] 3:=ha _ _ (Rc _ (by omega) (by omega)) aY.out rfl
     refine zqq _ _ K (R+1) R wo.heap.size l1 i (R0 (Bf s) hF) W z1 z2 z3 (hK _ (Rc _ (by omega) (by omega))) (hK _ (Rc _ (by omega) (by omega))) (hK _ (Rc _ (by omega) (by omega))) fun cs De=>?_
     have Cr:i<scs.length:=by rw[HN.out];exact Aj
     have Ba:i<cs.length:=by rw[De.1];unfold pcs;rw[List.length_map];exact Cr
     obtain⟨p,hp,hc⟩:=De.2 i _ (Ac Ba)
     have P0:scs[i]?=some s:=by have := HS.out;rw[Ac Cr]at this ⊢;exact congrArg some this
     unfold pcs at hp;rw[List.getElem?_map,P0]at hp;cases hp
     have Bt:=sR.out _ hc;refine⟨Ba,by rw[Ac Ba,Option.getD_some];omega,?_⟩;unfold evT R0;rw[xR.out,if_pos Cr,P0,Ac Ba,Option.getD_some,Option.getD_some];rw[qsu.out,List.contains_iff_mem.2 hc,Bool.true_and]
  ·obtain rfl:i=n:=by omega
   have Kh:∀ cs,evT scs cs e=false:=fun cs=>by
    unfold evT mU;rw[if_neg];rw[Nat.not_lt];refine Nat.le_of_eq (Eq.symm (List.findIdx_eq_length.2 fun s hs=>?_));obtain⟨k,hk,rfl⟩:=List.getElem_of_mem hs;have := Lk.out k (by rw[<- HN.out];exact hk);rw[Ac hk]at this
    simpa using this
   have qlr:=Aa Kh;clear Kh;go_wp2_with fail
   refine bodyPost_ret (v:=.func (.func 100) #[] #[]) (by simp[results,Tryz.results72,go_sem]) rfl ?_;refine⟨_,rfl,fun W K ha hK=>?_,Bi.out.trans (Cm.out.mono (by omega))⟩;have := zv3 (Cu (pcs scs)) K W;simp only[qlr.out];exact this
theorem cO:(Tryz.prog.info? 31).map (fun i=>i.size)=some 4:=by kernel_rfl
theorem DgX.lens {K:Nat} {w:World} {x:Dv} {scs:List Sc} {st:DSt} {root:Int} (h:DgX K w x scs st root):x.s.n=scs.length/\x.n.n=st.nds.length/\x.l.n=st.lvs.length:=by
 obtain⟨_,_,h1,_,_⟩:=h.s.form;obtain⟨_,_,h2,_,_⟩:=h.n.form;obtain⟨_,_,h3,_,_⟩:=h.l.form;simp only[Sl.val,Value.slice.injEq]at h1 h2 h3;exact⟨h1.2.1,h2.2.1,h3.2.1⟩
theorem qpz {st:DSt} {sc:Nat} {t:Int} (h:TOk st sc t) (h1:st.nds.length<=2^40) (h2:st.lvs.length<=2^40) : -(2^62)<t/\t<2^62:=by
 rcases h with⟨n,rfl,hn⟩ | ⟨n,x,rfl,hn,_⟩
 ·omega
 ·have := (List.getElem?_eq_some_iff.1 hn).1;omega
theorem uK (K:Nat) (x:Dv) (scs:List Sc) (st:DSt) (root:Int) (w:World) (h:DgX K w x scs st root) (hv:DgV scs st root) (hg:K8 scs) (hK:K<=w.heap.size) :
  Calls Tryz.prog 20 #[x.agg] w fun e w'=>e=.returned (.bool true)/\Below w.heap.size w w':=by
 obtain⟨l1,l2,l3⟩:=h.lens;obtain⟨n,hn⟩:=Ae scs.length;obtain⟨m,hm⟩:=Ae st.nds.length;obtain⟨q,hq⟩:=Ae st.lvs.length;have eE:=hv.len;have qcr:=hv.nsz;have vU:=hv.lsz;obtain⟨⟨sa,sn,sm⟩,⟨na,nn,nm⟩,⟨la,ln,lm⟩,rt⟩:=x;simp only at l1 l2 l3;have Gt:rt=root:=h.r;obtain⟨hs,Ru,Hg,_⟩:=h;dsimp only at hs Ru Hg;subst l1 l2 l3 Gt;obtain⟨_,_,Cp,Az,Ep⟩:=hs.form;obtain⟨_,_,Gr,Lj,K1⟩:=Ru.form;obtain⟨_,_,Jy,Qj,wC⟩:=Hg.form;simp only[Value.slice.injEq,Sl.val,true_and]at Cp Gr Jy;obtain⟨rfl,rfl⟩:=Cp;obtain⟨rfl,rfl⟩:=Gr;obtain⟨rfl,rfl⟩:=Jy;have HS:=Aa hs;have qhx:=Aa Ru;have Nl:=Aa Hg;rw[hn]at eE Az;rw[hm]at qcr Lj;rw[hq]at vU Qj;obtain⟨W1,Ah⟩:=Ae (w.alloc (.cells #[.slice sa n sm,.slice na m nm,.slice la q lm,.int .i64 rt] 31))
 have b1:Below w.heap.size w W1:=by rw[<- Ah];exact Af _ _
 have q1:Blk W1 w.heap.size #[.slice sa n sm,.slice na m nm,.slice la q lm,.int .i64 rt] 31:=by rw[<- Ah];exact Blk.new w _ _
 have s1:W1.heap.size=w.heap.size+1:=by rw[<- Ah];simp
 obtain⟨T,hT⟩:=Ae w.heap.size;have HT:=Aa hT;have HW:=Aa Ah;rw[hT]at b1 q1 s1 hK ⊢;rw[hn]at HS ⊢;rw[hm]at qhx ⊢;rw[hq]at Nl ⊢;have HV:=Aa hv;have HN:=Aa hn;have HM:=Aa hm;have HQ:=Aa hq;have HG:=Aa hg;have Bi:=Aa b1;have Bc:=Aa q1;have S1:=Aa s1;unfold maxLen at Ep K1 wC;obtain⟨c0,c1,c2,c3⟩:=q1.four;have R2:decide ((16:Int)<(n:Int))=false:=decide_eq_false (by omega)
 have Vh:T<W1.heap.size:=by omega
 clear hs Ru Hg hv hn hm hq hg hT Ah b1 q1 s1;go_enter Tryz.func20,Tryz.ntmps20
 go_upto_region 1 with fail
 simp only[HT.out];rw[HW.out];go_wp2_with fail
 go_loopw [21] (fun iv wr=>∃ i:Nat,i<=n/\iv=.int .i64 i/\Below W1.heap.size W1 wr) (fun iv _=>n-(intOf iv).toNat)
 case atStart=>exact⟨0,Nat.zero_le _,rfl,Below.refl _ _⟩
 case round =>
  obtain⟨i,hi,rfl,Bb⟩:=hrel;obtain⟨wo,rfl⟩:∃ wo:World,wo=wr:=⟨_,rfl⟩;have Ej:=Aa Bb;have Jl:=Bb.size;have bTo:Below T w wo:=Bi.out.trans (Bb.mono (by omega))
  by_cases Aj:i<n
  ·obtain⟨gy,Cx,Cd⟩:=HS.out
   rw[HN.out]at Cx Cd;obtain⟨b,o,cap,he,_,_,Cj,hc⟩:=Cx.pos (by omega);simp only[Value.slice.injEq,true_and]at he;obtain⟨rfl,rfl⟩:=he
   have Cr:i<scs.length:=by rw[HN.out];exact Aj
   obtain⟨s,hs⟩:=Ae (scs[i]?.getD default)
   have Hm:s∈scs:=by rw[<- hs,Ac Cr,Option.getD_some];exact List.getElem_mem Cr
   have hx:=Cd i Aj;rw[hs]at hx;have Ce:=aK (g:=gy) (Km bTo (by omega) hc) Aj;obtain⟨y,hy⟩:=Ae (gy i);rw[hy]at hx Ce;have Df:Hid (∀ u∈y.cells,u.oneCell'=true):=Aa (by simp[Value.oneCell']);have HX:=Aa (hx.below bTo hK (show K<=wo.heap.size by omega));have Eh:=HG.out s Hm;have Ay:=HV.out.ok s Hm;have Mz:=Aa Eh;have J5:=Aa Ay;clear hc hs Hm hx hy Cx Cd Eh Ay bTo Bb
   go_upto_region 6 with(first
    | (refine wpList_load_mid rfl 46 (.tmp 23) rfl b (o+i*11) rfl y.cells.toList _ Ce Tryz.underlying46 rfl Mc ?_)
    | (refine Iu rfl 46 (.tmp 4) (.tmp 24) rfl y.cells _ Mc rfl Df.out wo.heap.size rfl rfl rfl ?_))
   obtain⟨T2,Jh⟩:∃ T,wo.heap.size=T:=⟨_,rfl⟩;obtain⟨W2,Ax⟩:∃ W,wo.alloc (.cells y.cells 46)=W:=⟨_,rfl⟩
   have b2:Below T2 wo W2:=by rw[<- Ax,<- Jh];exact Af _ _
   have q2:Blk W2 T2 y.cells 46:=by rw[<- Ax,<- Jh];exact Blk.new wo _ _
   have Dw:W2.rangeAt T2 0 y.cells.toList:=q2.range;have Az:=b2.size;rw[Jh];rw[Ax];rw[Jh]at HX Jl;have Gg:=gA T2 s y W2 (HX.out.below b2 (Ab _) (Ab _)) (by have := q2.lt;omega) Mz.out.1 Mz.out.2;rw[J5.out]at Gg;have Vk:=Aa Gg;have Bz:=Aa b2;have Rb:=Aa Jh;clear Jh Ax q2 b2 Gg Ce Df
   go_wp2_with (first
    | (refine wpList_load_mid rfl 46 (.tmp 4) rfl T2 0 rfl y.cells.toList _ Dw Tryz.underlying46 rfl Mc ?_))
   refine Vk.out.mono ?_;clear Vk Dw;rintro en w3 ⟨rfl,Ak⟩;have hb:Below W1.heap.size W1 w3:=Ej.out.trans ((Bz.out.trans (Ak.mono (by have := Bz.out.size;have := Rb.out;omega))).mono (by have := Rb.out;omega));have HB:=Aa hb;clear hb Ak;go_wp2_with fail
   exact⟨⟨i+1,by omega,by go_num,HB.out⟩,by simp[intOf];omega⟩
  ·obtain rfl:i=n:=by omega
   clear hi Aj;have d0:=(Bb.cell (p:=⟨T,0,none⟩) Vh).trans c0;have d1:=(Bb.cell (p:=⟨T,1,none⟩) Vh).trans c1;have D4:=qhn K (.slice sa i sm) scs wo (HS.out.below bTo hK (Ab _)) HG.out (by rw[HN.out];omega) (by omega);have O1:=Aa D4;clear D4 Bb bTo;go_wp2_with fail
   refine O1.out.mono ?_;clear O1 d0 d1;rintro en w4 ⟨pv,pvs,pF,rfl,Eg,Al⟩;have Fe:=Eg.read;obtain⟨pa,pc,Sm,En,Vj⟩:=Fe.form
   have Pp:(scs.map Bf).length=i:=by rw[List.length_map];exact HN.out
   rw[Pp]at Sm En;subst Sm;unfold maxLen at Vj;have b14:Below W1.heap.size W1 w4:=Ej.out.trans (Al.mono Jl);have d1:=(b14.cell (p:=⟨T,1,none⟩) Vh).trans c1;have Q2:=Aa Fe;have Yw:=Aa b14;have zvr:=Aa Pp;have Fi:=b14.size;clear Eg Fe Al b14 Pp Ej Jl wo;go_wp2_with fail
   go_loopw [35] (fun iv wr=>∃ j:Nat,j<=m/\iv=.int .i64 j/\Below w4.heap.size w4 wr) (fun iv _=>m-(intOf iv).toNat)
   case atStart=>exact⟨0,Nat.zero_le _,rfl,Below.refl _ _⟩
   case round =>
    obtain⟨j,hj,rfl,Bb⟩:=hrel;obtain⟨wo,rfl⟩:∃ wo:World,wo=wr:=⟨_,rfl⟩;have Jl:=Bb.size;have b1o:Below W1.heap.size W1 wo:=Yw.out.trans (Bb.mono Fi);have bTo:Below T w wo:=Bi.out.trans (b1o.mono (by omega))
    by_cases Aj:j<m
    ·obtain⟨ng,Mj,Zu⟩:=qhx.out
     rw[HM.out]at Mj Zu;obtain⟨b,o,cap,he,_,_,Cj,hc⟩:=Mj.pos (by omega);simp only[Value.slice.injEq,true_and]at he;obtain⟨rfl,rfl⟩:=he;obtain⟨nd,Ru⟩:∃ nd,st.nds[j]?=some nd:=⟨_,Ac (by rw[HM.out];exact Aj)⟩;obtain⟨sc,nx⟩:=nd
     have e0:w.cell? ⟨b,o+j*2,none⟩=some (.int .i64 sc):=by have := hc j Aj 0 (by omega);rw[Ru]at this;simpa using this
     have e1:w.cell? ⟨b,o+j*2+1,none⟩=some (ng j):=by have := hc j Aj 1 (by omega);rw[Nat.add_assoc];simpa using this
     obtain⟨s,hs,Et,Ea⟩:=HV.out.node j sc nx Ru;have lC:=Zu j Aj;rw[Ru]at lC;dsimp only[Option.getD_some]at lC;obtain⟨xa,xc,C2,Pq,Ng⟩:=Au.form lC;obtain⟨p,hp⟩:=Ae nx.length;rw[hp]at C2 Et Pq;rw[C2]at e1 lC;unfold maxLen at Ng;have f0:=(bTo.cell (p:=⟨b,o+j*2,none⟩) (Nat.lt_of_lt_of_le Cj hK)).trans e0;have f1:=(bTo.cell (p:=⟨b,o+j*2+1,none⟩) (Nat.lt_of_lt_of_le Cj hK)).trans e1
     have gR:sc<i:=by rw[<- HN.out];exact(List.getElem?_eq_some_iff.1 hs).1
     obtain⟨pg,Yf,M6⟩:=Q2.out;rw[zvr.out]at Yf M6;obtain⟨pb,po,pcap,Nk,_,_,eM,Pj⟩:=Yf.pos (by omega);simp only[Value.slice.injEq,true_and]at Nk;obtain⟨rfl,rfl⟩:=Nk;have D4:=M6 sc gR;rw[List.getElem?_map,hs]at D4;obtain⟨ga,gc,Nn,_,_⟩:=D4.form;rw[show(Option.map Bf (some s)).getD []=Bf s from rfl,<- Et]at Nn;have g0:wo.cell? ⟨pb,po+sc,none⟩=some (.slice ga p gc):=(Bb.cell (p:=⟨pb,po+sc,none⟩) eM).trans (by have := Pj sc gR 0 (by omega);rw[Nn]at this;simpa using this);have d0:=(b1o.cell (p:=⟨T,0,none⟩) Vh).trans c0;have d1:=(b1o.cell (p:=⟨T,1,none⟩) Vh).trans c1;have d2:=(b1o.cell (p:=⟨T,2,none⟩) Vh).trans c2;have d3:=(b1o.cell (p:=⟨T,3,none⟩) Vh).trans c3;have Vo:=Aa Ea;have zoi:=Aa lC;have Ej:=Aa Bb;have HP:=Aa hp;have ja5:=Aa Ru;have Gr:decide ((sc:Int)<0)=false:=decide_eq_false (by omega);have Lj:decide ((i:Int)<=(sc:Int))=false:=decide_eq_false (by omega)
     have K1:((p:Int) != (p:Int))=false:=by simp
     have zxy:decide (i<=sc)=false:=decide_eq_false (by omega);obtain⟨A0,Kt⟩:=Ae wo.heap.size;obtain⟨W5,Ez⟩:∃ W,wo.alloc (.cells #[.int .i64 sc,.slice xa p xc] 97)=W:=⟨_,rfl⟩
     have b5:Below A0 wo W5:=by rw[<- Ez,<- Kt];exact Af _ _
     have q5:Blk W5 A0 #[.int .i64 sc,.slice xa p xc] 97:=by rw[<- Ez,<- Kt];exact Blk.new wo _ _
     have s5:A0<W5.heap.size:=q5.lt
     have jX:T<A0:=by omega
     have k0:=(b5.cell (p:=⟨T,0,none⟩) jX).trans d0;have k1:=(b5.cell (p:=⟨T,1,none⟩) jX).trans d1;have k2:=(b5.cell (p:=⟨T,2,none⟩) jX).trans d2;have k3:=(b5.cell (p:=⟨T,3,none⟩) jX).trans d3;have g5:=(b5.cell (p:=⟨pb,po+sc,none⟩) (by rw[<- Kt];exact Nat.lt_of_lt_of_le eM Jl)).trans g0;obtain⟨m0,m1⟩:=q5.two;have Wb:=Aa Ez;have J8:=Aa Kt;have Hf:=Aa b5;have Jq:=Aa q5;clear hc Mj Zu Ru e0 e1 hs Et Ea lC C2 hp Yf M6 Pj D4 Nn Bb b1o bTo d0 d1 d2 d3 g0 Kt Ez b5 q5
     go_upto_region 13 with fail
     rw[Wb.out];rw[J8.out];go_quiet (fail)
     generalize Fk:World.drewN W5 _=W6
     have b6:Below W5.heap.size W5 W6:=by rw[<- Fk];exact Gn (Below.refl _ _) _
     have m0:=(b6.cell (p:=⟨A0,0,none⟩) s5).trans m0;have m1:=(b6.cell (p:=⟨A0,1,none⟩) s5).trans m1;have b46:Below w4.heap.size w4 W6:=Ej.out.trans ((Hf.out.mono (by rw[J8.out]at Jl;exact Jl)).trans (b6.mono (by have := Hf.out.size;rw[J8.out]at Jl;omega)));have s6:=b6.size;have qod:=Aa b46;clear Fk b6 b46 k0 k1 k2 k3 g5 Wb f0 f1;go_wp2_with fail
     go_loopw [65] (fun iv wr=>∃ k:Nat,k<=p/\iv=.int .i64 k/\Below W6.heap.size W6 wr) (fun iv _=>p-(intOf iv).toNat)
     case atStart=>exact⟨0,Nat.zero_le _,rfl,Below.refl _ _⟩
     case round =>
      obtain⟨k,hk,rfl,Oi⟩:=hrel;obtain⟨wi,rfl⟩:∃ wi:World,wi=wr:=⟨_,rfl⟩;have zmu:=Oi.size;have b4k:Below w4.heap.size w4 wi:=qod.out.trans (Oi.mono qod.out.size);have b1k:Below W1.heap.size W1 wi:=Yw.out.trans (b4k.mono Fi);have bTk:Below T w wi:=Bi.out.trans (b1k.mono (by omega));have zfe:=Aa b4k
      by_cases bT:k<p
      ·obtain⟨xb,xo,xcap,Mf,_,_,aX,Vp⟩:=Au.pos zoi.out (by rw[HP.out];omega)
       rw[HP.out]at Mf;simp only[Value.slice.injEq,true_and]at Mf;obtain⟨rfl,rfl⟩:=Mf;obtain⟨t,ht⟩:∃ t,nx[k]?=some t:=⟨_,Ac (by rw[HP.out];exact bT)⟩;have h0:wi.cell? ⟨xb,xo+k,none⟩=some (.int .i64 t):=(bTk.cell (p:=⟨xb,xo+k,none⟩) (Nat.lt_of_lt_of_le aX hK)).trans (by have := Vp k (by rw[HP.out];exact bT) 0 (by omega);rw[ht]at this;simpa using this);have qg4:=Vo.out t (List.mem_of_getElem? ht);have Y6:=qpz qg4 (by rw[HM.out];exact qcr) (by rw[HQ.out];exact vU);have bE:=qoa qg4;rw[HQ.out,HM.out]at bE;have aO:Blk wi T #[.slice sa i sm,.slice (some ⟨b,o,none⟩) m nm,.slice la q lm,.int .i64 rt] 31:=Bc.out.below b1k Vh
       have V8:∀ z,Calls Tryz.prog 44 #[.pointer (some ⟨T,0,none⟩),.int .i64 t] (wi.drewN z) fun e w'=>e=.returned (.bool true)/\w'=wi.drewN z:=fun z=>by
        have := qqg T ⟨⟨sa,i,sm⟩,⟨some ⟨b,o,none⟩,m,nm⟩,⟨la,q,lm⟩,rt⟩ t (wi.drewN z) aO Y6;dsimp only at this;rwa[bE]at this
       have fM:=Aa V8;have k1:wi.cell? ⟨T,1,none⟩=some (.slice (some ⟨b,o,none⟩) m nm):=aO.at rfl;have m0:=(Oi.cell (p:=⟨A0,0,none⟩) (Nat.lt_of_lt_of_le s5 s6)).trans m0;have Xi:=Aa Oi
       have Gj:∀ W',Below wi.heap.size wi W'->Below W6.heap.size W6 W':=fun W' h=>Xi.out.trans (h.mono zmu)
       have Ka:=Aa Gj
       rcases qg4 with⟨n',e',G5⟩ | ⟨n',y,e',G5,hy⟩
       ·have t0:decide ((0:Int)<=t)=false:=decide_eq_false (by omega)
        clear e' G5 Vp ht bE aO Oi b4k b1k bTk Y6 V8 Gj
        go_upto_region 18 with fail
        have V8:=fM.out;go_quiet (first | (go_at_call 44;refine Calls.quiet_of_same (V8 _)))
        clear V8;go_wp2_with fail
        exact⟨⟨k+1,by omega,by go_num,Ka.out _ (Gn (Below.refl _ _) _)⟩,by simp[intOf];omega⟩
       ·subst e'
        have zpk:n'<m:=by rw[<- HM.out];exact(List.getElem?_eq_some_iff.1 G5).1
        obtain⟨ng,Mj,_⟩:=qhx.out;rw[HM.out]at Mj;obtain⟨b2,o2,cap2,zbr,_,_,qtg,Ii⟩:=Mj.pos (by omega);simp only[Value.slice.injEq,Option.some.injEq,Addr.mk.injEq,and_true,true_and]at zbr;obtain⟨⟨rfl,rfl⟩,rfl⟩:=zbr;have z0:wi.cell? ⟨b,o+n'*2,none⟩=some (.int .i64 y.1):=(bTk.cell (p:=⟨b,o+n'*2,none⟩) (Nat.lt_of_lt_of_le qtg hK)).trans (by have := Ii n' zpk 0 (by omega);rw[G5]at this;simpa using this);have zng:decide ((y.1:Int)<=(sc:Int))=false:=decide_eq_false (by omega);have zqf:decide (y.1<=sc)=false:=decide_eq_false (by omega)
        have Ir:n'<=2^40:=by omega
        obtain⟨y1,y2⟩:=y;dsimp only at z0 zng zqf;clear G5 Vp ht bE aO Oi b4k b1k bTk Y6 V8 Gj Mj Ii hy
        go_upto_region 18 with fail
        have V8:=fM.out;go_quiet (first | (go_at_call 44;refine Calls.quiet_of_same (V8 _)))
        clear V8;go_wp2_with fail
        exact⟨⟨k+1,by omega,by go_num,Ka.out _ (Gn (Below.refl _ _) _)⟩,by simp[intOf];omega⟩
      ·obtain rfl:k=p:=by omega
       clear hk bT Oi b4k b1k bTk;go_wp2_with fail
       exact⟨⟨j+1,by omega,by go_num,zfe.out⟩,by simp[intOf];omega⟩
    ·obtain rfl:j=m:=by omega
     clear hj Aj;have d2:=(b1o.cell (p:=⟨T,2,none⟩) Vh).trans c2;have d1:=(b1o.cell (p:=⟨T,1,none⟩) Vh).trans c1;have qmi:=Aa b1o;have zan:=b1o.size;clear Bb b1o bTo;go_wp2_with fail
     go_loopw [92] (fun iv wr=>wo=wr/\∃ k:Nat,k<=q/\iv=.int .i64 k) (fun iv _=>q-(intOf iv).toNat)
     case atStart=>exact⟨rfl,0,Nat.zero_le _,rfl⟩
     case round =>
      obtain⟨rfl,k,hk,rfl⟩:=hrel;have bTo:Below T w wo:=Bi.out.trans (qmi.out.mono (by omega))
      by_cases bT:k<q
      ·obtain⟨lg,Mk,O2⟩:=Nl.out
       rw[HQ.out]at Mk O2;obtain⟨lb,lo,lcap,Bt,_,_,qvn,Uy⟩:=Mk.pos (by omega);simp only[Value.slice.injEq,true_and]at Bt;obtain⟨rfl,rfl⟩:=Bt;obtain⟨lf,K4⟩:∃ lf,st.lvs[k]?=some lf:=⟨_,Ac (by rw[HQ.out];exact bT)⟩;have qq9:=HV.out.leaf k lf K4;have Lb:=O2 k bT;rw[K4,Option.getD_some]at Lb;obtain⟨ea,ec,cR,mA,U1⟩:=Lb.form;obtain⟨r,hr⟩:=Ae lf.length;rw[hr]at cR mA;rw[cR]at Lb;unfold maxLen at U1;have e0:wo.cell? ⟨lb,lo+k,none⟩=some (.slice ea r ec):=(bTo.cell (p:=⟨lb,lo+k,none⟩) (Nat.lt_of_lt_of_le qvn hK)).trans (by have := Uy k bT 0 (by omega);rw[cR]at this;simpa using this);have zk0:=Aa Lb;have zpr:=Aa qq9;have HR:=Aa hr;have E6:=Aa bTo;clear Mk O2 Uy K4 qq9 Lb cR hr bTo;go_wp2_with fail
       go_loopw [98] (fun iv wr=>wo=wr/\∃ u:Nat,u<=r/\iv=.int .i64 u) (fun iv _=>r-(intOf iv).toNat)
       case atStart=>exact⟨rfl,0,Nat.zero_le _,rfl⟩
       case round =>
        obtain⟨rfl,u,hu,rfl⟩:=hrel
        by_cases hltu:u<r
        ·obtain⟨eb,eo,ecap,qh5,_,_,zie,qhj⟩:=Ee.pos zk0.out (by rw[HR.out];omega)
         rw[HR.out]at qh5;simp only[Value.slice.injEq,true_and]at qh5;obtain⟨rfl,rfl⟩:=qh5
         have cl:∀ i,i<r->wo.cell? ⟨eb,eo+i,none⟩=some (Z (lf[i]?.getD 0)):=fun i hi=>(E6.out.cell (p:=⟨eb,eo+i,none⟩) (Nat.lt_of_lt_of_le zie hK)).trans (qhj i (by rw[HR.out];exact hi))
         have CL:=Aa cl;obtain⟨z,hz⟩:=Ae (lf[u]?.getD 0)
         have f0:wo.cell? ⟨eb,eo+u,none⟩=some (.int .i64 (z:Int)):=by have := cl u hltu;rw[hz]at this;exact this
         have z0:decide ((z:Int)<0)=false:=decide_eq_false (by omega)
         by_cases yK:u=0
         ·have u0:decide ((0:Int)<(u:Int))=false:=decide_eq_false (by omega)
          have u0n:decide (0<u)=false:=decide_eq_false (by omega);clear qhj cl hz yK;go_wp2_with fail
          exact⟨⟨trivial,u+1,by omega,by go_num⟩,by simp[intOf];omega⟩
         ·have u0:decide ((0:Int)<(u:Int))=true:=decide_eq_true (by omega)
          have u0n:decide (0<u)=true:=decide_eq_true (by omega)
          have jb0:IntKind.i64.wrap ((u:Int)-1)=((u-1:Nat):Int):=by rw[show((u-1:Nat):Int)=(u:Int)-1 by omega];exact IntWalk.i64_in _ (by omega)
          obtain⟨z',ql8⟩:∃ z,lf[u-1]?.getD 0=z:=⟨_,rfl⟩
          have f1:wo.cell? ⟨eb,eo+(u-1),none⟩=some (.int .i64 (z':Int)):=by have := cl (u-1) (by omega);rw[ql8]at this;exact this
          have Xd:z'<z:=by
           have qhd:u<lf.length:=by rw[HR.out];exact hltu
           have := List.pairwise_iff_getElem.1 zpr.out (u-1) u (by omega) qhd (by omega);rw[Ac qhd,Option.getD_some]at hz;rw[Ac (by omega),Option.getD_some]at ql8;omega
          have z1:decide ((z:Int)<=(z':Int))=false:=decide_eq_false (by omega);have z1n:decide (z<=z')=false:=decide_eq_false (by omega)
          have Ew:u-1<r:=by omega
          clear qhj cl hz ql8 yK Xd;go_wp2_with fail
          exact⟨⟨trivial,u+1,by omega,by go_num⟩,by simp[intOf];omega⟩
        ·obtain rfl:u=r:=by omega
         clear hu hltu;go_wp2_with fail
         exact⟨⟨trivial,k+1,by omega,by go_num⟩,by simp[intOf];omega⟩
      ·obtain rfl:k=q:=by omega
       clear hk bT;have aO:Blk wo T #[.slice sa i sm,.slice na j nm,.slice la k lm,.int .i64 rt] 31:=Bc.out.below qmi.out Vh;have d3:wo.cell? ⟨T,3,none⟩=some (.int .i64 rt):=aO.at rfl;have Gt:=HV.out.root;have bE:=qoa Gt;rw[HQ.out,HM.out]at bE;have Za:=qqg T ⟨⟨sa,i,sm⟩,⟨na,j,nm⟩,⟨la,k,lm⟩,rt⟩ rt wo aO (qpz Gt (by rw[HM.out];exact qcr) (by rw[HQ.out];exact vU));dsimp only at Za;rw[bE]at Za;have fM:=Aa Za;have E6:=Aa bTo;clear aO Gt bE Za bTo;go_wp2_with fail
       refine fM.out.mono ?_;clear fM;rintro en w9 ⟨rfl,rfl⟩;go_wp2_with fail
       go_ret
       exact⟨rfl,E6.out⟩
end Go.Proofs.YtlldjmagbjjeoaaGreatDoor
