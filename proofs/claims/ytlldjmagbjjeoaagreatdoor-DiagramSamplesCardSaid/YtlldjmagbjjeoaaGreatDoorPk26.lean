/- Contracts and plain laws, several texts in one (GHold3, GlAwP, GlM3, GlOpn2). No conditions beyond those stated. -/
import Derived.Test.YtlldjmagbjjeoaaGreatDoorPk25
set_option maxRecDepth 100000
set_option maxHeartbeats 40000000
namespace Go.Proofs.YtlldjmagbjjeoaaGreatDoor
open Go.RowKit
set_option linter.unusedVariables false
theorem zp6 {e:Gx} {l:List Sc} {cs:List Int} {i:Nat} (hi:i<l.length) (h:Zq l cs i=false):Lp e l cs=(false,2):=by
 unfold Lp
 split
 ·rfl
 ·rw[if_pos]
  rw[List.any_eq_true];exact⟨i,List.mem_range.2 hi,by rw[h];rfl⟩
theorem zwl {e:Gx} {l:List Sc} {cs:List Int} (hf:Tf e=true) (Cc:cs.length=l.length) (h:∀ i,i<l.length->Zq l cs i=true):Lp e l cs=if(Ll l cs e).2=false then(false,2)else((Ll l cs e).1,0):=by
 unfold Lp;rw[if_neg (by rw[hf];simp[Cc]),if_neg];intro h2
 rw[List.any_eq_true]at h2;obtain⟨i,hi,hh⟩:=h2;rw[h i (List.mem_range.1 hi)]at hh;cases hh
theorem zq1 {l:List Sc} {cs:List Int} {i:Nat} (hi:i<l.length) (h:Zq l cs i=true):(l[i]).okB=true:=by
 unfold Zq at h;rw[Ac hi]at h;simp only[Bool.and_eq_true,Option.getD_some]at h;exact h.1.1
theorem zaf (K:Nat) (e:Gx) (x:Xv) (l:List Sc) (lv:Value) (cs:List Int) (cv:Value) (w:World) (he:ExG K w e x) (hg:e.good=true) (hl:Mo K w lv l) (hc:Re K w cv cs) (hK:K<=w.heap.size) (Jt:∀ s∈l,∀ c∈s.cuts,c.good=true) (Dr:∀ s∈l,s.cuts.length<=2^38) :
  Calls Tryz.prog 65 #[x.agg,lv,cv] w fun en w'=>en=.returned (.tuple #[.bool (Lp e l cs).1,.int .i64 (Lp e l cs).2])/\Below w.heap.size w w':=by
 obtain⟨la,lc,Hg,Sj,Jw⟩:=hl.form;obtain⟨ca,cc,Ev,Ba,Fl⟩:=hc.form;have Nl:=Aa Hg;have S8:=Aa Ev;have HX:=Aa he;have HL:=Aa hl;have HC:=Aa hc;have rZ:=Aa Jt;have qhv:=Aa Dr;subst Hg Ev;unfold maxLen at Jw Fl;obtain⟨xop,xnm,kd,b3,⟨a4,n4,m4⟩,b5,⟨a6,n6,m6⟩,i7,⟨a8,n8,m8⟩⟩:=x;obtain⟨W1,Ah⟩:=Ae (((w.alloc (.cells (⟨xop,xnm,kd,b3,⟨a4,n4,m4⟩,b5,⟨a6,n6,m6⟩,i7,⟨a8,n8,m8⟩⟩:Xv).cells 43)).alloc (.cells #[.slice la l.length lc] 27)).alloc (.cells #[.slice ca cs.length cc] 34));obtain⟨b1,q0,q1,q2,s1⟩:=N4 w _ _ _ _ _ _ Ah;obtain⟨B,hB⟩:=Ae w.heap.size;have HB:=Aa hB;rw[hB]at hK b1 q0 q1 q2 s1 ⊢;have HW:=Aa Ah;have Dn:=qxe K e _ W1 (he.below b1 hK (Ab _)) (by omega);have Wf:=Aa q0;have Bc:=Aa q1;have Bw:=Aa q2;obtain⟨R,hR⟩:=Ae (Lp e l cs);rw[hR];have HR:=Aa hR;obtain⟨n,hn⟩:=Ae l.length;obtain⟨k0,On⟩:∃ k,cs.length=k:=⟨_,rfl⟩;rw[hn]at Sj HW ⊢;rw[On]at Ba HW ⊢;have HN:=Aa hn;have Zj:=Aa On;obtain⟨d0,d1,d2,d3,d4,d5,d6,d7,d8⟩:=q0.nine;obtain⟨ft,J4⟩:∃ f,Tf e=f:=⟨_,rfl⟩;rw[J4]at Dn;have aG:=Aa J4;clear he hl hc Jt Dr hB Ah q0 q1 q2 hR hn On J4;go_enter Tryz.func65,Tryz.ntmps65
 go_upto_region 1 with fail
 simp only[HB.out];rw[HW.out]
 cases ft with
 | false =>
  have hr:R=(false,2):=by rw[<- HR.out];unfold Lp;rw[if_pos (.inl aG.out)]
  subst hr;go_wp2_with fail
  refine Dn.mono ?_;rintro en w2 ⟨rfl,Ai⟩;go_wp2_with fail
  go_ret2
  exact⟨rfl,b1.trans (Ai.mono (by omega))⟩
 | true =>
  go_wp2_with fail
  refine Dn.mono ?_;rintro en w2 ⟨rfl,Ai⟩;clear Dn d0 d1 d2 d3 d4 d5 d6 d7 d8;have Az:=Ai.size;have c1:=(Bc.out.below Ai (by omega)).one.1;have c2:=(Bw.out.below Ai (by omega)).one.1;rw[HN.out]at c1;rw[Zj.out]at c2
  by_cases Cc:k0=n
  ·subst Cc
   have e0:((k0:Int) != (k0:Int))=false:=by simp
   have Bz:=Aa Ai;go_wp2_with fail
   go_loopw [25] (fun i wr=>∃ (j:Nat),j<=k0/\i=.int .i64 j/\Below W1.heap.size W1 wr/\Hid (∀ i,i<j->Zq l cs i=true)) (fun i _=>k0-(intOf i).toNat)
   case atStart=>exact⟨0,Nat.zero_le _,rfl,Bz.out,Aa fun i hi=>absurd hi (Nat.not_lt_zero i)⟩
   case round =>
    obtain⟨j,hj,rfl,Bb,Ld⟩:=hrel;have Fh:=Bb.size
    by_cases Aj:j<k0
    ·obtain⟨g,iO,Eh⟩:=HL.out
     obtain⟨sb,so,scap,Nh,_,Hm,Hw,D1⟩:=iO.pos (by rw[HN.out];omega);simp only[Value.slice.injEq,true_and]at Nh;obtain⟨rfl,rfl⟩:=Nh;have qez:=Eh j (by rw[HN.out];exact Aj);have qxf:=Km (b1.trans (Bb.mono (by omega))) (show sb<B by omega) D1;have Ce:=aK qxf (show j<l.length by rw[HN.out];exact Aj);obtain⟨kb,ko,kcap,X7,_,pM,zsx,uR⟩:=HC.out.pos (by rw[Zj.out];omega);simp only[Value.slice.injEq,true_and]at X7;obtain⟨rfl,rfl⟩:=X7;obtain⟨y,hy⟩:=Ae (g j);obtain⟨sc,Cd⟩:∃ s,l[j]?.getD default=s:=⟨_,rfl⟩;obtain⟨ci,Ik⟩:∃ c,cs[j]?.getD 0=c:=⟨_,rfl⟩;rw[Cd,hy]at qez;rw[hy]at Ce;have Qh:=Aa Ce
     have qta:Hid (∀ W',Below w.heap.size w W'->W'.cell? ⟨kb,ko+j,none⟩=some (.int .i64 ci)):=Aa fun W' hb=>by
      have := Km hb (by rw[HB.out];omega) uR j (by rw[Zj.out];exact Aj) 0 (by omega)
      simpa [Ik] using this
     have zil:=Aa qez;have Om:=Aa Cd;have dM:=Aa Ik;obtain⟨⟨yop,ynm,yk,yb3,⟨y4,y4n,y4m⟩,yb5,⟨y6,y6n,y6m⟩,yi7,⟨y8,y8n,y8m⟩⟩,sk,⟨sa,sn,sm⟩⟩:=y;clear iO Eh D1 qxf uR qez Ce hy Cd Ik c1 c2
     have qjn:sb<wr.heap.size:=by omega
     go_upto_region 6 with(first
      | refine wpList_load_mid rfl 46 (.tmp 28) rfl sb (so+j*11) rfl (⟨⟨yop,ynm,yk,yb3,⟨y4,y4n,y4m⟩,yb5,⟨y6,y6n,y6m⟩,yi7,⟨y8,y8n,y8m⟩⟩,sk,⟨sa,sn,sm⟩⟩:Sv).cells.toList _ Qh.out Tryz.underlying46 rfl Mc ?_
      | refine Iu rfl 46 (.tmp 9) (.tmp 29) rfl (⟨⟨yop,ynm,yk,yb3,⟨y4,y4n,y4m⟩,yb5,⟨y6,y6n,y6m⟩,yi7,⟨y8,y8n,y8m⟩⟩,sk,⟨sa,sn,sm⟩⟩:Sv).cells _ Mc rfl (by simp[Value.oneCell']) wr.heap.size rfl rfl rfl ?_)
     generalize Cn:wr.alloc _=W3
     have b3':Below wr.heap.size wr W3:=by rw[<- Cn];exact Af _ _
     have q3:Blk W3 wr.heap.size (⟨⟨yop,ynm,yk,yb3,⟨y4,y4n,y4m⟩,yb5,⟨y6,y6n,y6m⟩,yi7,⟨y8,y8n,y8m⟩⟩,sk,⟨sa,sn,sm⟩⟩:Sv).cells 46:=by rw[<- Cn];exact Blk.new wr _ _
     have b3:Below W1.heap.size W1 W3:=Bb.trans (b3'.mono Fh);have q3lt:=q3.lt;obtain⟨u,hu⟩:=Ae wr.heap.size;rw[hu]at q3 q3lt ⊢
     have Ha:W1.heap.size<=u:=by omega
     have Ep:=b3.size;have Jt:=rZ.out sc (by rw[<- Om.out,Ac (by rw[HN.out];exact Aj)];exact List.getElem_mem _);have N0:=qhv.out sc (by rw[<- Om.out,Ac (by rw[HN.out];exact Aj)];exact List.getElem_mem _);have zK:=zil.out.below (b1.trans (b3.mono (by omega))) hK (Ab _)
     have hv:∀ W',Below W3.heap.size W3 W'->Calls Tryz.prog 21 #[(⟨⟨yop,ynm,yk,yb3,⟨y4,y4n,y4m⟩,yb5,⟨y6,y6n,y6m⟩,yi7,⟨y8,y8n,y8m⟩⟩,sk,⟨sa,sn,sm⟩⟩:Sv).agg] W' fun e w'=>e=.returned (.bool sc.okB)/\Below W'.heap.size W' w':=fun W' hb=>gA K sc _ W' (zK.below hb (by omega) (Ab _)) (by have := hb.size;omega) Jt N0
     have za4:sk=sc.kd:=zK.kd
     have qgt:sn=sc.cuts.length:=by obtain⟨_,_,h9,_,_⟩:=zK.cuts.form;simp only[Sl.val,Value.slice.injEq]at h9;exact h9.2.1
     have Fx:Zq l cs j=(sc.okB && decide (0<=ci) && decide (ci<Hd sk sn)):=by unfold Zq;rw[Om.out,dM.out,za4,qgt]
     have Oe:=Aa Fx;have HV:=Aa hv;have zqd:Hid (sn<=2^38):=Aa (by rw[qgt];exact N0);have Hz:=Aa q3;have Do:=Aa b3
     have qly:Hid (Zq l cs j=false->R=(false,2)):=Aa fun h=>by rw[<- HR.out];exact zp6 (by rw[HN.out];exact Aj) h
     obtain⟨rv,Qm⟩:∃ r,sc.okB=r:=⟨_,rfl⟩;rw[Qm]at hv Fx;have Oe:=Aa Fx;have HV:=Aa hv;clear Cn b3' q3 b3 hu Jt N0 zK za4 qgt Fx hv Bb Qm;refine Fz (fun W'=>Below W3.heap.size W3 W') [] (by kernel_rfl) ?_;have qS:(fun W'=>Below W3.heap.size W3 W') W3.drew:=Er (Below.refl _ _)
     have b13:∀ W',Below W3.heap.size W3 W'->Below W1.heap.size W1 W':=fun W' h=>Do.out.trans (h.mono Ep)
     refine Ar (i:=0) (v:=(⟨⟨yop,ynm,yk,yb3,⟨y4,y4n,y4m⟩,yb5,⟨y6,y6n,y6m⟩,yi7,⟨y8,y8n,y8m⟩⟩,sk,⟨sa,sn,sm⟩⟩:Sv).agg) rfl (yieldsIf_load_mid (by kernel_rfl) 46 (.tmp 9) rfl u 0 rfl (⟨⟨yop,ynm,yk,yb3,⟨y4,y4n,y4m⟩,yb5,⟨y6,y6n,y6m⟩,yi7,⟨y8,y8n,y8m⟩⟩,sk,⟨sa,sn,sm⟩⟩:Sv).cells.toList _ (fun W' hS=>(Hz.out.below hS q3lt).range) Tryz.underlying46 rfl Mc) qS ?_;refine Ap (i:=1) rfl ?_;go_simp
     refine(HV.out _ qS).mono ?_;rintro en w4 ⟨rfl,Al⟩;have qS4:Below W3.heap.size W3 w4:=qS.trans (Al.mono qS.size);refine⟨qS4,?_⟩;clear Al qS
     cases rv with
     | false =>
      obtain rfl:=qly.out (by rw[Oe.out];rfl);refine Am (i:=2) (v:=.bool true) rfl qS4 ?_;refine Am (i:=3) (v:=.bool true) rfl qS4 ?_;refine Ar (i:=4) (v:=undef) rfl (.inr ⟨by kernel_rfl,rfl⟩) qS4 ?_;refine Ar (i:=5) (v:=undef) rfl (.inr ⟨by kernel_rfl,rfl⟩) qS4 ?_;refine Ar (i:=6) (v:=undef) rfl (.inr ⟨by kernel_rfl,rfl⟩) qS4 ?_;refine Ar (i:=7) (v:=undef) rfl (.inr ⟨by kernel_rfl,rfl⟩) qS4 ?_;refine Ar (i:=8) (v:=undef) rfl (.inr ⟨by kernel_rfl,rfl⟩) qS4 ?_;refine Am (i:=9) (v:=.bool true) rfl qS4 ?_;refine Am (i:=10) (v:=.bool true) rfl qS4 ?_;refine Ar (i:=11) (v:=undef) rfl (.inr ⟨by kernel_rfl,rfl⟩) qS4 ?_;refine Ar (i:=12) (v:=undef) rfl (.inr ⟨by kernel_rfl,rfl⟩) qS4 ?_;refine Ar (i:=13) (v:=undef) rfl (.inr ⟨by kernel_rfl,rfl⟩) qS4 ?_;refine Ar (i:=14) (v:=undef) rfl (.inr ⟨by kernel_rfl,rfl⟩) qS4 ?_;refine Ar (i:=15) (v:=undef) rfl (.inr ⟨by kernel_rfl,rfl⟩) qS4 ?_;refine Ar (i:=16) (v:=undef) rfl (.inr ⟨by kernel_rfl,rfl⟩) qS4 ?_;refine Am (i:=17) (v:=.bool true) rfl qS4 ?_;refine Eo (by kernel_rfl) ?_ _;go_simp
      iterate 14 go_step
      change bodyPost _ _ (fun en w'=>en=.returned (.tuple #[.bool false,.int .i64 2])/\Below B w w') .ret _ _
      go_ret2
      exact⟨rfl,b1.trans ((b13 _ qS4).mono (by omega))⟩
     | true =>
      refine Am (i:=2) (v:=.bool false) rfl qS4 ?_;refine Am (i:=3) (v:=.bool false) rfl qS4 ?_;refine Ar (i:=4) (v:=.slice (some ⟨kb,ko,none⟩) k0 cc) rfl (.inl ⟨by kernel_rfl,fun W' hS=>by have d0:=(Bw.out.below (b13 W' hS) (by omega)).one.1;rw[Zj.out]at d0;go_simp⟩) qS4 ?_;refine Am (i:=5) (v:=.int .i64 (j:Int)) rfl qS4 ?_;refine Am (i:=6) (v:=.pointer (some ⟨kb,ko+j,none⟩)) rfl qS4 ?_;refine Ar (i:=7) (v:=.int .i64 ci) rfl (.inl ⟨by kernel_rfl,fun W' hS=>by have d0:=qta.out W' (HB.out.symm ▸ (b1.trans ((b13 W' hS).mono (by omega))));go_simp⟩) qS4 ?_
      by_cases h0:ci<0
      ·obtain rfl:=qly.out (by rw[Oe.out];simp;omega)
       have e0:decide (ci<0)=true:=by simp;omega
       refine Am (i:=8) (v:=.bool true) rfl qS4 ?_;refine Am (i:=9) (v:=.bool true) rfl qS4 ?_;refine Am (i:=10) (v:=.bool true) rfl qS4 ?_;refine Ar (i:=11) (v:=undef) rfl (.inr ⟨by kernel_rfl,rfl⟩) qS4 ?_;refine Ar (i:=12) (v:=undef) rfl (.inr ⟨by kernel_rfl,rfl⟩) qS4 ?_;refine Ar (i:=13) (v:=undef) rfl (.inr ⟨by kernel_rfl,rfl⟩) qS4 ?_;refine Ar (i:=14) (v:=undef) rfl (.inr ⟨by kernel_rfl,rfl⟩) qS4 ?_;refine Ar (i:=15) (v:=undef) rfl (.inr ⟨by kernel_rfl,rfl⟩) qS4 ?_;refine Ar (i:=16) (v:=undef) rfl (.inr ⟨by kernel_rfl,rfl⟩) qS4 ?_;refine Am (i:=17) (v:=.bool true) rfl qS4 ?_;refine Eo (by kernel_rfl) ?_ _;go_simp
       iterate 14 go_step
       change bodyPost _ _ (fun en w'=>en=.returned (.tuple #[.bool false,.int .i64 2])/\Below B w w') .ret _ _
       go_ret2
       exact⟨rfl,b1.trans ((b13 _ qS4).mono (by omega))⟩
      ·have e0:decide (ci<0)=false:=by simp;omega
       refine Am (i:=8) (v:=.bool false) rfl qS4 ?_;refine Am (i:=9) (v:=.bool false) rfl qS4 ?_;refine Am (i:=10) (v:=.bool false) rfl qS4 ?_;refine Ar (i:=11) (v:=.slice (some ⟨kb,ko,none⟩) k0 cc) rfl (.inl ⟨by kernel_rfl,fun W' hS=>by have d0:=(Bw.out.below (b13 W' hS) (by omega)).one.1;rw[Zj.out]at d0;go_simp⟩) qS4 ?_;refine Am (i:=12) (v:=.int .i64 (j:Int)) rfl qS4 ?_;refine Am (i:=13) (v:=.pointer (some ⟨kb,ko+j,none⟩)) rfl qS4 ?_;refine Ar (i:=14) (v:=.int .i64 ci) rfl (.inl ⟨by kernel_rfl,fun W' hS=>by have d0:=qta.out W' (HB.out.symm ▸ (b1.trans ((b13 W' hS).mono (by omega))));go_simp⟩) qS4 ?_;refine Ap (i:=15) rfl ?_;go_simp
       have q4:=Hz.out.below qS4 q3lt;refine(mE u 0 sn sm sa sk w4 (q4.at (i:=9) rfl) (q4.at (i:=10) rfl) zqd.out).mono ?_;rintro en w5 ⟨rfl,Aq⟩;have qS5:Below W3.heap.size W3 w5:=qS4.trans (Aq.mono qS4.size);refine⟨qS5,?_⟩;obtain⟨cn,Ox⟩:∃ c,Hd sk sn=c:=⟨_,rfl⟩;have Fx:=Oe.out;rw[Ox]at Fx ⊢;clear qS4 q4 Aq Ox
       by_cases h1:(cn:Int)<=ci
       ·obtain rfl:=qly.out (by rw[Fx];simp;omega)
        have e1:decide ((cn:Int)<=ci)=true:=by simp;omega
        refine Am (i:=16) (v:=.bool true) rfl qS5 ?_;refine Am (i:=17) (v:=.bool true) rfl qS5 ?_;refine Eo (by kernel_rfl) ?_ _;go_simp
        iterate 14 go_step
        change bodyPost _ _ (fun en w'=>en=.returned (.tuple #[.bool false,.int .i64 2])/\Below B w w') .ret _ _
        go_ret2
        exact⟨rfl,b1.trans ((b13 _ qS5).mono (by omega))⟩
       ·have e1:decide ((cn:Int)<=ci)=false:=by simp;omega
        have Ay:Zq l cs j=true:=by rw[Fx];simp;omega
        have zfn:Hid (∀ i,i<j+1->Zq l cs i=true):=Aa fun i hi=>by
         by_cases h:i=j
         ·subst h;exact Ay
         ·exact Ld.out i (by omega)
        clear Fx Ay;refine Am (i:=16) (v:=.bool false) rfl qS5 ?_;refine Am (i:=17) (v:=.bool false) rfl qS5 ?_;have b15:=b13 _ qS5;refine Eo (by kernel_rfl) ?_ _;go_simp
        iterate 14 go_step
        change _/\_
        go_roundw
        case rel=>exact⟨j+1,by omega,by simp,b15,zfn⟩
        case measure=>simp[intOf];omega
    ·obtain rfl:j=k0:=by omega
     have Ht:∀ i,i<l.length->Zq l cs i=true:=fun i hi=>Ld.out i (by have := HN.out;omega)
     have Gf:=zwl aG.out (by rw[HN.out,Zj.out]) Ht;rw[HR.out]at Gf
     have qj2:(Tryz.prog.info? 74).map (fun i=>i.size)=some 1:=by kernel_rfl
     have Pu:=Aa Gf;clear Gf c1 c2 Ht
     go_upto_region 11 with fail
     generalize Ax:(wr.alloc _).alloc _=W2
     have x2:Below W1.heap.size W1 W2:=by rw[<- Ax];exact(Bb.alloc Fh _).alloc (by simp;omega) _
     have p1:Blk W2 wr.heap.size #[.bool true] 4:=by rw[<- Ax];exact(Blk.new wr _ _).alloc _
     have p2:Blk W2 (wr.heap.size+1) #[.nilFunc] 74:=by
      rw[<- Ax];have := Blk.new (wr.alloc (.cells #[.bool true] 4)) #[.nilFunc] 74;rwa[World.size_alloc]at this
     obtain⟨u,hu⟩:=Ae wr.heap.size;rw[hu]at p1 p2 Fh ⊢;clear Ax hu Bb
     iterate 4 go_step
     refine qua rfl 74 74 (.tmp 11) (.tmp 49) rfl (hdF (B+1) u (B+1+1) (u+1)) .nilFunc (u+1) p2 qj2 rfl rfl rfl ?_;intro W3 t1 t2 t3 t4
     have hx:Below W1.heap.size W1 W3:=x2.trans (t2 _ (by omega));have Ep:=hx.size;have h1:=Bc.out.below hx (by omega);have h2:=Bw.out.below hx (by omega);have h3:=HL.out.below (b1.trans (hx.mono (by omega))) hK (show K<=W1.heap.size by omega);have h4:=HC.out.below (b1.trans (hx.mono (by omega))) hK (show K<=W1.heap.size by omega);rw[HN.out]at h1 h3;rw[Zj.out]at h2 h4;have qk6:Blk W3 u #[.bool true] 4:=p1.below (t2 (u+1) (Ab _)) (by omega)
     have Ba:HdW W1.heap.size (B+1) u (B+1+1) (u+1) l cs (.slice la j lc) (.slice ca j cc) true W3 :=
      ⟨h3,by unfold Re;rw[Zj.out];exact h4,qk6,h1,h2,t1⟩
     have Yn:=aG.out;unfold Tf at Yn;simp only[Bool.and_eq_true,decide_eq_true_eq]at Yn
     have zaw:∀ s∈l,Nq s.kd s.cuts/\s.cuts.length<=2^38:=fun s hs=>by
      obtain⟨i,hi,rfl⟩:=List.mem_iff_getElem.1 hs;exact⟨rN (zq1 hi (Ld.out i (by have := HN.out;omega))) (rZ.out _ (List.getElem_mem hi)),qhv.out _ (List.getElem_mem hi)⟩
     have Ao:=zcw W1.heap.size u (B+1) (B+1+1) (u+1) l cs _ _ (by rw[HN.out,Zj.out]) zaw Fh e.parts e (Ab _) Yn.1 hg true _ W3 (HX.out.below (b1.trans (hx.mono (by omega))) hK (show K<=W1.heap.size by omega)) Ba;have f1:=t1.one.1;obtain⟨d0,d1,d2,d3,d4,d5,d6,d7,d8⟩:=(Wf.out.below hx (by omega)).nine;have Ak:Below B w W3:=b1.trans (hx.mono (by omega));have ul:u<W3.heap.size:=qk6.lt;obtain⟨G,hG⟩:=Ae (Ll l cs e);rw[hG]at Ao;have I5:=Pu.out;rw[hG]at I5;clear p1 p2 x2 t2 t3 t4 h1 h2 h3 h4 qk6 Ba zaw Yn hG t1 hx;go_wp2_with fail
     refine Ao.mono ?_;rintro en W4 ⟨rfl,Vn,pH⟩;clear Ao d0 d1 d2 d3 d4 d5 d6 d7 d8 f1;have Al:Below B w W4:=Ak.trans (kR Vn (by have := Ak.size;omega) (by omega));obtain⟨g1,g2⟩:=G;have c4:=pH.one.1
     cases g2 with
     | false =>
      rw[if_pos rfl]at I5;subst I5;go_wp2_with fail
      go_ret2
      exact⟨rfl,Al⟩
     | true =>
      rw[if_neg (by simp)]at I5;subst I5;go_wp2_with fail
      go_ret2
      exact⟨rfl,Al⟩
  ·have hr:R=(false,2):=by rw[<- HR.out];unfold Lp;rw[if_pos (.inr (by rw[HN.out,Zj.out];exact Cc))]
   subst hr
   have e1:((k0:Int) != (n:Int))=true:=by simp;omega
   have e2:((k0:Int)==(n:Int))=false:=by simp;omega
   go_wp2_with fail
   go_ret2
   exact⟨rfl,b1.trans (Ai.mono (by omega))⟩
theorem qjg {K b n:Nat} {w:World} {cs:Array Value} (hq:Blk w b cs 43) (hb:b<K) (g:Nat->Xv) (h:∀ i,i<n->∀ j,j<9->cs[i*9+j]?=some ((g i).cell j)) (hm:n<=maxLen):Au 9 (fun i j=>(g i).cell j) K w (.slice (some ⟨b,0,none⟩) n n) n :=
 Au.mk_cells (Ab _) hm hb fun i hi j hj=>by rw[Nat.zero_add];exact hq.at (h i hi j hj)
def g2x (x y:Xv) (i:Nat):Xv:=if i=0 then x else y
abbrev Cq (x y:Xv):Array Value:=#[.int .u8 x.op,S x.nm,.int .u8 x.kd,.bool x.b3,.slice x.s4.a x.s4.n x.s4.m,.bool x.b5,.slice x.s6.a x.s6.n x.s6.m,.int .i64 x.i7,.slice x.s8.a x.s8.n x.s8.m,.int .u8 y.op,S y.nm,.int .u8 y.kd,.bool y.b3,.slice y.s4.a y.s4.n y.s4.m,.bool y.b5,.slice y.s6.a y.s6.n y.s6.m,.int .i64 y.i7,.slice y.s8.a y.s8.n y.s8.m]
theorem qbr {K b:Nat} {w:World} {x y:Xv} (hq:Blk w b (Cq x y) 43) (hb:b<K):Au 9 (fun i j=>(g2x x y i).cell j) K w (.slice (some ⟨b,0,none⟩) 2 2) 2:=by
 refine qjg hq hb _ (fun i hi j hj=>?_) (by simp[maxLen])
 rcases i with _ | _ | i
 ·rcases j with _ | _ | _ | _ | _ | _ | _ | _ | _ | j<;>first | rfl | omega
 ·rcases j with _ | _ | _ | _ | _ | _ | _ | _ | _ | j<;>first | rfl | omega
 ·omega
theorem zfa {K b:Nat} {w:World} {x:Xv} (hq:Blk w b x.cells 43) (hb:b<K):Au 9 (fun i j=>((fun _=>x) i:Xv).cell j) K w (.slice (some ⟨b,0,none⟩) 1 1) 1:=by
 refine qjg hq hb (fun _=>x) (fun i hi j hj=>?_) (by simp[maxLen])
 obtain rfl:i=0:=by omega
 rcases j with _ | _ | _ | _ | _ | _ | _ | _ | _ | j<;>first | rfl | omega
theorem zuk {K b:Nat} {w:World} {o:Int} {e1 e2:Gx} {x y z:Xv} (hq:Blk w b (Cq x y) 43) (hb:b<K) (h1:ExG K w e1 x) (h2:ExG K w e2 y) (hz:z=opX o ⟨some ⟨b,0,none⟩,2,2⟩):ExG K w (.mk o [] v0 [e1,e2]) z:=by
 subst hz
 refine ExG.make rfl rfl (by simp[Gx.nm,maxLen]) (rS K w) (g2x x y) (qbr hq hb) fun j a ha=>?_
 rcases j with _ | _ | j
 ·cases ha;exact h1
 ·cases ha;exact h2
 ·cases ha
theorem zs7 {K b:Nat} {w:World} {o:Int} {nm:Str} {e1:Gx} {x:Xv} (hq:Blk w b x.cells 43) (hb:b<K) (h1:ExG K w e1 x) (hn:nm.length<=maxLen):ExG K w (.mk o nm v0 [e1]) ⟨o,nm,0,false,⟨none,0,0⟩,false,⟨none,0,0⟩,0,⟨some ⟨b,0,none⟩,1,1⟩⟩:=by
 refine ExG.make rfl rfl hn (rS K w) (fun _=>x) (zfa hq hb) fun j a ha=>?_
 rcases j with _ | j
 ·cases ha;exact h1
 ·cases ha
structure An (L:Nat) (V W:World):Prop where
 size:V.heap.size<=W.heap.size
 block:∀ k,L<=k->k<V.heap.size->W.heap[k]?=V.heap[k]?
theorem An.refl (L:Nat) (V:World):An L V V:=⟨Ab _,fun _ _ _=>rfl⟩
theorem An.trans {L:Nat} {V W X:World} (h:An L V W) (h':An L W X):An L V X:=⟨Nat.le_trans h.size h'.size,fun k h1 h2=>(h'.block k h1 (Nat.lt_of_lt_of_le h2 h.size)).trans (h.block k h1 h2)⟩
theorem An.mono {L L':Nat} {V W:World} (h:An L V W) (hl:L<=L'):An L' V W:=⟨h.size,fun k h1 h2=>h.block k (Nat.le_trans hl h1) h2⟩
theorem An.of {L:Nat} {V W:World} (h:Below V.heap.size V W):An L V W:=⟨h.size,fun k _ h2=>h.block k h2⟩
theorem An.put {L r:Nat} {V W:World} (h:V.grownBy W (some r)) (hr:r<L):An L V W:=⟨h.size,fun k h1 h2=>h.block k h2 (fun e=>by simp at e;omega)⟩
theorem An.cell {L:Nat} {V W:World} (h:An L V W) {a:Addr} {v:Value} (ha:L<=a.block) (hc:V.cell? a=some v):W.cell? a=some v:=by
 have Aj:=World.block_lt_of_cell? _ _ hc;unfold World.cell? at hc ⊢;rw[h.block a.block ha Aj];exact hc
theorem An.blk {L b t:Nat} {V W:World} {cs:Array Value} (h:An L V W) (hb:L<=b) (hq:Blk V b cs t):Blk W b cs t:=(h.block b hb hq.lt).trans hq
def ExN (L:Nat) (V:World) (e:Gx) (x:Xv):Prop:=∀ W,An L V W->ExG W.heap.size W e x
def VlN (L:Nat) (V:World) (v:Vq) (x:Vv):Prop:=∀ W,An L V W->VlX W.heap.size W v x
theorem ExN.now {L:Nat} {V:World} {e:Gx} {x:Xv} (h:ExN L V e x):ExG V.heap.size V e x:=h V (An.refl _ _)
theorem ExN.move {L:Nat} {V W:World} {e:Gx} {x:Xv} (h:ExN L V e x) (hw:An L V W):ExN L W e x:=fun X hx=>h X (hw.trans hx)
theorem ExN.mono {L L':Nat} {V:World} {e:Gx} {x:Xv} (h:ExN L V e x) (hl:L'<=L):ExN L' V e x:=fun X hx=>h X (hx.mono hl)
theorem VlN.move {L:Nat} {V W:World} {v:Vq} {x:Vv} (h:VlN L V v x) (hw:An L V W):VlN L W v x:=fun X hx=>h X (hw.trans hx)
theorem yC {K L:Nat} {V W:World} {v:Value} {l:List Nat} (h:Lm K V v l) (hv:Bj L v) (hw:An L V W) (hK:K<=V.heap.size):Lm W.heap.size W v l:=by
 obtain⟨a,cap,rfl,hn,hm,hz,hc⟩:=h.1;have hs:=hw.size;refine⟨⟨a,cap,rfl,hn,hm,hz,fun i hi=>?_⟩,h.2⟩;obtain⟨b,o,he,Cj,Gw⟩:=hc i hi;subst he;exact⟨b,o,rfl,by omega,fun j hj=>hw.cell (hv b o _ _ rfl) (Gw j hj)⟩
theorem I9 {L V b} {o:Int} {e1 e2:Gx} {x y:Xv} (hq:Blk V b (Cq x y) 43) (hb:L<=b) (h1:ExN L V e1 x) (h2:ExN L V e2 y):ExN L V (.mk o [] v0 [e1,e2]) (opX o ⟨some ⟨b,0,none⟩,2,2⟩):=fun W hw=>zuk (hw.blk hb hq) (hw.blk hb hq).lt (h1 W hw) (h2 W hw) rfl
theorem qvl {L V b} {o:Int} {e1:Gx} {x:Xv} (hq:Blk V b x.cells 43) (hb:L<=b) (h1:ExN L V e1 x):ExN L V (.mk o [] v0 [e1]) (opX o ⟨some ⟨b,0,none⟩,1,1⟩):=fun W hw=>zs7 (hw.blk hb hq) (hw.blk hb hq).lt (h1 W hw) (by simp[maxLen])
abbrev vL (x y z:Xv):Array Value:=#[.int .u8 x.op,S x.nm,.int .u8 x.kd,.bool x.b3,.slice x.s4.a x.s4.n x.s4.m,.bool x.b5,.slice x.s6.a x.s6.n x.s6.m,.int .i64 x.i7,.slice x.s8.a x.s8.n x.s8.m,.int .u8 y.op,S y.nm,.int .u8 y.kd,.bool y.b3,.slice y.s4.a y.s4.n y.s4.m,.bool y.b5,.slice y.s6.a y.s6.n y.s6.m,.int .i64 y.i7,.slice y.s8.a y.s8.n y.s8.m,
 .int .u8 z.op,S z.nm,.int .u8 z.kd,.bool z.b3,.slice z.s4.a z.s4.n z.s4.m,.bool z.b5,.slice z.s6.a z.s6.n z.s6.m,.int .i64 z.i7,.slice z.s8.a z.s8.n z.s8.m]
def g3x (x y z:Xv) (i:Nat):Xv:=if i=0 then x else if i=1 then y else z
theorem zkn {L V b} {o:Int} {e1 e2 e3:Gx} {x y z:Xv} (hq:Blk V b (vL x y z) 43) (hb:L<=b) (h1:ExN L V e1 x) (h2:ExN L V e2 y) (h3:ExN L V e3 z):ExN L V (.mk o [] v0 [e1,e2,e3]) (opX o ⟨some ⟨b,0,none⟩,3,3⟩):=fun W hw=>by
 have Wi:=hw.blk hb hq
 refine ExG.make rfl rfl (by simp[Gx.nm,maxLen]) (rS _ W) (g3x x y z) (qjg Wi Wi.lt _ (fun i hi j hj=>?_) (by simp[maxLen])) fun j a ha=>?_
 ·rcases i with _ | _ | _ | i
  ·rcases j with _ | _ | _ | _ | _ | _ | _ | _ | _ | j<;>first | rfl | omega
  ·rcases j with _ | _ | _ | _ | _ | _ | _ | _ | _ | j<;>first | rfl | omega
  ·rcases j with _ | _ | _ | _ | _ | _ | _ | _ | _ | j<;>first | rfl | omega
  ·have Ub:i+1+1+1<3:=hi
   omega
 ·rcases j with _ | _ | _ | j
  ·cases ha;exact h1 W hw
  ·cases ha;exact h2 W hw
  ·cases ha;exact h3 W hw
  ·cases ha
theorem tJ {L:Nat} {V:World} {v:Vq} {kd:Int} {f1 f2:Bool} {s1 s2:Sl} {i:Int} (h:VlN L V v ⟨kd,f1,s1.val,f2,s2.val,i⟩):ExN L V (Kv v) (Ch kd f1 s1 f2 s2 i):=fun W hw=>ExG.make rfl rfl (by simp[Gx.nm,Kv,maxLen]) (h W hw) (fun _=>xz) (Au.nil none 0 (Nat.zero_le _) (fun _=>rfl)) fun j a ha=>by cases ha
theorem qok (kd:Int) (hk:1<=kd/\kd<=6) (n:Nat) (hn:n<65536) (w:World):Calls Tryz.prog 63 #[.int .u8 kd,.int .i64 n] w fun e w'=>∃ (k i:Int) (f1 f2:Bool) (s1 s2:Sl),e=.returned (⟨k,f1,s1.val,f2,s2.val,i⟩:Vv).agg/\VlN w.heap.size w' (wV kd n) ⟨k,f1,s1.val,f2,s2.val,i⟩/\Below w.heap.size w w':=by
 unfold wV
 by_cases h:kd=2\/kd=3
 ·rw[if_pos h]
  refine(zi3 kd h n w hn).mono ?_;rintro e w' ⟨x,rfl,hx,h1,h2,hb⟩;obtain⟨a1,m1,Bu,_⟩:=hx.n.form;obtain⟨a2,m2,Bs,_⟩:=hx.d.form;obtain⟨k,f1,s1,f2,s2,i⟩:=x;dsimp only at Bu Bs;subst Bu Bs;exact⟨k,i,f1,f2,⟨a1,_,m1⟩,⟨a2,_,m2⟩,rfl,fun W hw=>⟨hx.kd,hx.b1,hx.b2,hx.i,yC hx.n h1 hw (Ab _),yC hx.d h2 hw (Ab _)⟩,hb⟩
 ·rw[if_neg h]
  refine(zg2 kd n (by omega) w).mono ?_;rintro e w' ⟨rfl,hb⟩;exact⟨kd,n,false,false,⟨none,0,0⟩,⟨none,0,0⟩,rfl,fun W hw=>rR _ _ _ _,hb⟩
theorem zr9 {L b:Nat} {nm:Str} {V:World} (h:Blk V b V0.cells 43) (hb:L<=b) (hn:nm.length<=maxLen):ExN L V (.mk 5 nm v0 [.mk 2 [] v0 []]) (qac nm b):=fun W hw=>zdl (hw.blk hb h) (hw.blk hb h).lt hn
def U8s (K:Nat) (w:World) (v:Value) (l:List Nat):Prop:=Au 1 (fun i _=>.int .u8 ((l[i]?.getD 0:Nat):Int)) K w v l.length
theorem U8s.below {K K' B:Nat} {w w':World} {v:Value} {l:List Nat} (h:U8s K w v l) (hb:Below B w w') (hB:K<=B) (hK:K<=K'):U8s K' w' v l:=Au.below h hb hB hK
theorem U8s.grow {K K':Nat} {w:World} {v:Value} {l:List Nat} (h:U8s K w v l) (hK:K<=K'):U8s K' w v l:=Au.below h (Below.refl K w) (Ab _) hK
theorem U8s.nil (K:Nat) (w:World):U8s K w (.slice none 0 0) []:=Au.nil none 0 (Nat.zero_le _) (fun _=>rfl)
theorem U8s.head {K:Nat} {w:World} {v:Value} {x:Nat} {r:List Nat} (h:U8s K w v (x::r)):∃ b o cap,v=.slice (some ⟨b,o,none⟩) (r.length+1) cap/\r.length+1<=cap/\cap<=maxLen/\b<K/\w.cell? ⟨b,o,none⟩=some (.int .u8 (x:Int))/\U8s K w (.slice (if cap=1 then some ⟨b,o,none⟩else some ⟨b,o+1,none⟩) r.length (cap-1)) r:=by
 obtain⟨b,o,cap,hv,h1,h2,h3,h4⟩:=Au.pos h (by simp);have hl:(x::r).length=r.length+1:=rfl;rw[hl]at hv h1 h4;refine⟨b,o,cap,hv,h1,h2,h3,?_,?_⟩
 ·have := h4 0 (by omega) 0 (by omega)
  simp only[Nat.zero_mul,Nat.add_zero]at this;rw[this];rfl
 ·by_cases hc:cap=1
  ·rw[if_pos hc]
   have h0:r.length=0:=by omega
   unfold U8s;rw[h0];exact Au.nil _ _ (by omega) (fun e=>by cases e)
  ·rw[if_neg hc]
   refine Au.mk_cells (by omega) (by omega) h3 fun i hi j hj=>?_
   obtain rfl:j=0:=by omega
   have := h4 (i+1) (by omega) 0 (by omega);rw[show o+((i+1)*1+0)=o+1+(i*1+0)by omega]at this;rw[this];rfl
open Go.RowKit Go.ChangeShapes Go.WideShapes Go.ChangeAt Go.Deep
section
variable {H:Type} {enc:TypeId × Value->H} {W:World}
theorem qov {q:Int} (h:(Lit.int .u8 q).wf=true):∃ y:Nat,y<256/\q=y:=by
 simp[Lit.wf,IntKind.min,IntKind.max,IntKind.signed,IntKind.bits]at h;exact⟨q.toNat,by omega,by omega⟩
theorem qp8 {fuel:Nat} {v:Value} {x:DataW H × List MemPlace} (h:DataW.trod enc Tryz.prog W 0 (fun _=>true) true fuel 22 [v]=some x):∃ l,U8s W.heap.size W v l/\∀ y∈l,y<256:=by
 obtain⟨a,len,cap,rfl,Uy,Fl,hz,Cx⟩:=zlg Tryz.underlying22 (show Tryz.prog.cellsOf 5=1 by kernel_rfl) (by decide) h
 by_cases hp:0<len
 ·obtain⟨b,o,n',rfl,rfl,hb,hi⟩:=Cx hp
  have Kk:∀ i,i<len->∃ y:Nat,y<256/\W.cell? ⟨b,o+(i*1+0),none⟩=some (.int .u8 (y:Int)):=by
   intro i Cr
   obtain⟨cs',y,Ba,hy,Gw⟩:=hi i Cr;obtain⟨q,e,_,hw⟩:=DataW.trod_int Tryz.underlying5 hy;obtain⟨y,Ph,rfl⟩:=qov hw;exact⟨y,Ph,Gw 0 _ (by rw[e];rfl)⟩
  obtain⟨f,hf⟩:=choose_lt (α:=Nat) Kk;refine⟨(List.range len).map f,?_,fun y hy=>?_⟩
  ·unfold U8s
   rw[List.length_map,List.length_range]
   refine Au.mk_cells Uy Fl hb fun i Cr j hj=>?_
   obtain rfl:j=0:=by omega
   rw[(hf i Cr).2,List.getElem?_map,List.getElem?_range Cr];rfl
  ·obtain⟨i,hi,rfl⟩:=List.mem_map.1 hy
   exact(hf i (List.mem_range.1 hi)).1
 ·obtain rfl:len=0:=by omega
  exact⟨[],Au.nil a cap Fl hz,fun y hy=>by cases hy⟩
theorem zwd {fuel:Nat} {cs:Array Value} {x:DataW H × List MemPlace} (hs:cs.size=12) (h:DataW.trod enc Tryz.prog W 0 (fun _=>true) true fuel 23 cs.toList=some x):∃ l:List Nat,l.length=12/\(∀ y∈l,y<256)/\cs=(l.map fun n:Nat=>Value.int .u8 (n:Int)).toArray:=by
 obtain⟨xs,m,_,_,hl,Pq,Bq⟩:=DataW.trod_array Tryz.underlying23 h;rw[show Tryz.prog.cellsOf 5=1 by kernel_rfl]at Bq
 have Kk:∀ i,i<12->∃ y:Nat,y<256/\cs[i]?=some (.int .u8 (y:Int)):=by
  intro i hi
  have h1:=Bq i hi;rw[Ac (by omega),Nat.mul_one]at h1;obtain⟨q,e,_,hw⟩:=DataW.trod_int Tryz.underlying5 h1;obtain⟨y,Ph,rfl⟩:=qov hw;refine⟨y,Ph,?_⟩
  have h2:(List.take 1 (List.drop i cs.toList))[0]?=some (.int .u8 (y:Int)):=by rw[e];rfl
  rw[List.getElem?_take,if_pos (by omega),List.getElem?_drop,Nat.add_zero]at h2
  simpa using h2
 obtain⟨f,hf⟩:=choose_lt (α:=Nat) Kk;refine⟨(List.range 12).map f,by simp,fun y hy=>?_,?_⟩
 ·obtain⟨i,hi,rfl⟩:=List.mem_map.1 hy
  exact(hf i (List.mem_range.1 hi)).1
 ·apply Array.ext_getElem?
  intro i
  by_cases hi:i<12
  ·rw[(hf i hi).2,List.getElem?_toArray,List.getElem?_map,List.getElem?_map,List.getElem?_range hi];rfl
  ·rw[Array.getElem?_eq_none (by omega),List.getElem?_toArray,List.getElem?_eq_none (by simp;omega)]
theorem zrv {r:Reach} {b0:Nat} {v:Value} (h:Value.okWide Tryz.prog W r b0 23 v):∃ cs:Array Value,v=.agg cs/\cs.size=12:=by
 simp only[Value.okWide,Tryz.underlying23]at h;obtain⟨cs,h1,h2,_⟩:=h;exact⟨cs,h1,by rw[h2];kernel_rfl⟩
end
end Go.Proofs.YtlldjmagbjjeoaaGreatDoor
