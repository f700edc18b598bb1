/- Contracts and plain laws, several texts in one (GVal, GPos). No conditions beyond those stated. -/
import Derived.Test.YtlldjmagbjjeoaaGreatDoorPk17
set_option maxRecDepth 100000
set_option maxHeartbeats 40000000
namespace Go.Proofs.YtlldjmagbjjeoaaGreatDoor
open Go.RowKit
set_option linter.unusedVariables false
def Vx (kd:Int) (l:List Vq) (i:Nat):Bool:=(l[i]?.getD v0).kd==kd && (l[i]?.getD v0).ok && (i==0 || !vle (l[i]?.getD v0) (l[i-1]?.getD v0))
def Sc.okB (s:Sc):Bool:=if s.kd=0 then s.cuts.length==0 else decide (2<=s.kd) && decide (s.kd<=6) && decide (1<=s.cuts.length) && decide (s.cuts.length<=32) && (List.range s.cuts.length).all (Vx s.kd s.cuts)
theorem zog {s:Sc} (h0:s.kd≠0) (h:s.kd<2\/6<s.kd\/s.cuts.length<1\/32<s.cuts.length):s.okB=false:=by
 unfold Sc.okB;rw[if_neg h0]
 rcases h with h | h | h | h
 ·rw[show decide (2<=s.kd)=false by simpa using h];simp
 ·rw[show decide (s.kd<=6)=false by simpa using h];simp
 ·rw[show decide (1<=s.cuts.length)=false from decide_eq_false (by omega)];simp
 ·rw[show decide (s.cuts.length<=32)=false from decide_eq_false (by omega)];simp
theorem zk7 {s:Sc} {k:Nat} (h0:s.kd≠0) (hk:k<s.cuts.length) (h:Vx s.kd s.cuts k=false):s.okB=false:=by
 unfold Sc.okB;rw[if_neg h0]
 rw[show(List.range s.cuts.length).all (Vx s.kd s.cuts)=false by
  rw[List.all_eq_false];exact⟨k,List.mem_range.2 hk,by simp[h]⟩]
 simp
theorem zbv {s:Sc} (h0:s.kd≠0) (h1:¬ s.kd<2) (h2:¬ 6<s.kd) (h3:¬ s.cuts.length<1) (h4:¬ 32<s.cuts.length) (h:∀ j,j<s.cuts.length->Vx s.kd s.cuts j=true):s.okB=true:=by
 unfold Sc.okB;rw[if_neg h0];rw[show(List.range s.cuts.length).all (Vx s.kd s.cuts)=true by rw[List.all_eq_true];exact fun j hj=>h j (List.mem_range.1 hj)];simp;omega
theorem zqc:(Tryz.prog.info? 41).map (fun i=>i.size)=some 6:=by kernel_rfl
theorem gA (K:Nat) (s:Sc) (y:Sv) (w:World) (hs:ScX K w s y) (hK:K<=w.heap.size) (Jt:∀ c∈s.cuts,c.good=true) (Dr:s.cuts.length<=2^38) :
  Calls Tryz.prog 21 #[y.agg] w fun e w'=>e=.returned (.bool s.okB)/\Below w.heap.size w w':=by
 obtain⟨W1,Ah⟩:=Ae (w.alloc (.cells y.cells 46))
 have b1:Below w.heap.size w W1:=by rw[<- Ah];exact Af _ _
 have q1:Blk W1 w.heap.size y.cells 46:=by rw[<- Ah];exact Blk.new w _ _
 have s1:W1.heap.size=w.heap.size+1:=by rw[<- Ah];simp
 obtain⟨B,hB⟩:=Ae w.heap.size;have HB:=Aa hB;have HW:=Aa Ah;rw[hB]at hK b1 q1 s1 ⊢;obtain⟨g,hg,Qf⟩:=hs.cuts.below b1 hK hK;obtain⟨va,vcap,Qb,hn,hm⟩:=id hg.form;unfold maxLen at hm;obtain⟨n,Et⟩:=Ae s.cuts.length;have Br:=hs.kd
 have rZ:Hid (∀ i,i<n->(s.cuts[i]?.getD v0).good=true):=Aa fun i hi=>by
  rw[Ac (by omega)];exact Jt _ (List.getElem_mem (by omega))
 clear hB Ah hs Jt;obtain⟨⟨yop,ynm,yk,yb3,⟨y4,y4n,y4m⟩,yb5,⟨y6,y6n,y6m⟩,yi7,⟨y8,y8n,y8m⟩⟩,sk,⟨ca,cn,cm⟩⟩:=y;dsimp only[Sl.val]at Qb Br;simp only[Value.slice.injEq]at Qb;obtain⟨rfl,rfl,rfl⟩:=Qb;subst Br;rw[Et]at hg hn Qf Dr q1 HW ⊢;have HN:=Aa Et;clear Et;have c9:W1.cell? ⟨B,9,none⟩=some (.int .u8 s.kd):=q1.at rfl;have c10:W1.cell? ⟨B,10,none⟩=some (.slice ca n cm):=q1.at rfl;obtain⟨r,hr⟩:=Ae s.okB;obtain⟨kd,Br⟩:=Ae s.kd;have HR:=Aa hr;have Px:=Aa Br;rw[hr];rw[Br]at c9 q1 HW ⊢;clear hr Br;have HG:=Aa hg;have zbi:=Aa Qf;clear hg Qf;have Bc:=Aa q1;clear q1
 by_cases h0:kd=0
 ·have hr:r=((n:Int)==0):=by rw[<- HR.out];unfold Sc.okB;rw[if_pos (by rw[Px.out];exact h0),HN.out];cases n<;>simp<;>omega
  subst h0 hr;go_enter Tryz.func21,Tryz.ntmps21
  go_upto_region 1 with fail
  simp only[HB.out];rw[HW.out];go_wp2_with fail
  go_ret
  exact⟨rfl,b1⟩
 have lA:s.kd≠0:=by rw[Px.out];exact h0
 have e0:(kd==0)=false:=by simpa using h0
 by_cases Q8:kd<2\/6<kd\/n<1\/32<n
 ·have hr:r=false:=by rw[<- HR.out];exact zog lA (by rw[Px.out,HN.out];exact Q8)
  subst hr
  by_cases h1:kd<2
  ·have e1:decide (kd<2)=true:=by simpa using h1
   clear Q8 h0 h1;go_enter Tryz.func21,Tryz.ntmps21
   go_upto_region 1 with fail
   simp only[HB.out];rw[HW.out];go_wp2_with fail
   go_ret
   exact⟨rfl,b1⟩
  have e1:decide (kd<2)=false:=by simpa using h1
  by_cases h2:6<kd
  ·have e2:decide (6<kd)=true:=by simpa using h2
   clear Q8 h0 h1 h2;go_enter Tryz.func21,Tryz.ntmps21
   go_upto_region 1 with fail
   simp only[HB.out];rw[HW.out];go_wp2_with fail
   go_ret
   exact⟨rfl,b1⟩
  have e2:decide (6<kd)=false:=by simpa using h2
  by_cases h3:n<1
  ·have e3:decide ((n:Int)<1)=true:=by simp;omega
   clear Q8 h0 h1 h2 h3;go_enter Tryz.func21,Tryz.ntmps21
   go_upto_region 1 with fail
   simp only[HB.out];rw[HW.out];go_wp2_with fail
   go_ret
   exact⟨rfl,b1⟩
  have e3:decide ((n:Int)<1)=false:=by simp;omega
  have h4:32<n:=by omega
  have e4:decide (32<(n:Int))=true:=by simp;omega
  clear Q8 h0 h1 h2 h3 h4;go_enter Tryz.func21,Tryz.ntmps21
  go_upto_region 1 with fail
  simp only[HB.out];rw[HW.out];go_wp2_with fail
  go_ret
  exact⟨rfl,b1⟩
 have e1:decide (kd<2)=false:=by simp;omega
 have e2:decide (6<kd)=false:=by simp;omega
 have e3:decide ((n:Int)<1)=false:=by simp;omega
 have e4:decide (32<(n:Int))=false:=by simp;omega
 have Z7:=Aa Q8;have HZ:=Aa lA;clear Q8 h0 lA;go_enter Tryz.func21,Tryz.ntmps21
 go_upto_region 1 with fail
 simp only[HB.out];rw[HW.out];go_wp2_with fail
 clear e0 e1 e2 e3 e4;go_loopw [35] (fun i wr=>∃ k:Nat,k<=n/\i=.int .i64 k/\Below W1.heap.size W1 wr/\Hid (∀ j,j<k->Vx kd s.cuts j=true)) (fun i _=>n-(intOf i).toNat)
 case atStart=>exact⟨0,Nat.zero_le _,rfl,Below.refl _ _,Aa fun i hi=>absurd hi (Nat.not_lt_zero i)⟩
 case round =>
  obtain⟨k,hk,rfl,Bb,Ld⟩:=hrel;clear c9 c10;have Fh:=Bb.size
  by_cases Aj:k<n
  ·obtain⟨cb,co,cap,he,_,_,Cj,hc⟩:=HG.out.pos (by omega)
   simp only[Value.slice.injEq,true_and]at he;obtain⟨rfl,rfl⟩:=he;have cX:=Km Bb (by omega) hc;obtain⟨d0,d1,d2,d3,d4,d5⟩:=rV cX Aj;have Sk:=zbi.out k Aj
   have Gq:cb<wr.heap.size:=by omega
   have Lb:=rZ.out k Aj
   have Ao:∀ W,Below wr.heap.size wr W->Calls Tryz.prog 26 #[(g k).agg] W fun e w'=>e=.returned (.bool (s.cuts[k]?.getD v0).ok)/\Below W.heap.size W w':=fun W hb=>by
    have Jj:Below W1.heap.size W1 W:=Bb.trans (hb.mono Fh);have := Jj.size;exact xQ W.heap.size _ _ W (Sk.below Jj (by omega) (by omega)) (Ab _) Lb
   have Kd:(g k).kd=(s.cuts[k]?.getD v0).kd:=Sk.kd;have hcut:Vx kd s.cuts k=((s.cuts[k]?.getD v0).kd==kd && (s.cuts[k]?.getD v0).ok && (k==0 || !vle (s.cuts[k]?.getD v0) (s.cuts[k-1]?.getD v0))):=rfl;rw[<- Kd]at hcut
   have Kl:Hid (∀ k',k=k'+1->(g k).kd=kd->(s.cuts[k]?.getD v0).ok=true->∀ W,Below wr.heap.size wr W->Calls Tryz.prog 45 #[(g k').agg,(g k).agg] W fun e w'=>e=.returned (.int .i64 (Te (s.cuts[k']?.getD v0) (s.cuts[k]?.getD v0)))/\Below W.heap.size W w'):=Aa fun k' he Wh Ay W hb=>by
    have Jj:Below W1.heap.size W1 W:=Bb.trans (hb.mono Fh);have := Jj.size;have h9:=Ld.out k' (by omega);unfold Vx at h9;simp only[Bool.and_eq_true,beq_iff_eq]at h9;exact qgi W.heap.size _ _ _ _ W ((zbi.out k' (by omega)).below Jj (by omega) (by omega)) (Sk.below Jj (by omega) (by omega)) (Ab _) (rZ.out k' (by omega)) Lb h9.1.2 Ay (by rw[h9.1.1,<- Kd,Wh])
   have vQ:Hid (∀ k',k=k'+1->wr.cell? ⟨cb,co+k'*6,none⟩=some (.int .u8 (g k').kd)/\wr.cell? ⟨cb,co+k'*6+1,none⟩=some (.bool (g k').b1)/\wr.cell? ⟨cb,co+k'*6+2,none⟩=some (g k').s1/\wr.cell? ⟨cb,co+k'*6+3,none⟩=some (.bool (g k').b2) ∧
    wr.cell? ⟨cb,co+k'*6+4,none⟩=some (g k').s2/\wr.cell? ⟨cb,co+k'*6+5,none⟩=some (.int .i64 (g k').i)):=Aa fun k' he=>rV cX (by omega)
   have qio:Hid (Vx kd s.cuts k=false->r=false):=Aa fun h=>by rw[<- HR.out];exact zk7 HZ.out (by rw[HN.out];exact Aj) (by rw[Px.out];exact h)
   have Dl:=Aa Ao;obtain⟨rv,Qm⟩:=Ae ((s.cuts[k]?.getD v0).ok);simp only[Qm]at Dl Kl hcut;have qbs:=Kl
   have S9:∀ k',k=k'+1->(!vle (s.cuts[k]?.getD v0) (s.cuts[k-1]?.getD v0)) = !decide (0<=Te (s.cuts[k']?.getD v0) (s.cuts[k]?.getD v0)):=fun k' he=>by rw[qw9];subst he;rfl
   have X9:=Aa S9;have A6:=Aa hcut;have hq:=Bc.out.below Bb (by rw[s1];omega);obtain⟨a1,m1',Bu,_⟩:=Sk.n.form;obtain⟨a2,m2',Bs,_⟩:=Sk.d.form;obtain⟨n1',Es⟩:∃ n,(s.cuts[k]?.getD v0).l1.length=n:=⟨_,rfl⟩;obtain⟨n2',Dp⟩:∃ n,(s.cuts[k]?.getD v0).l2.length=n:=⟨_,rfl⟩;rw[Es]at Bu;rw[Dp]at Bs;clear Ao Sk Kd hcut S9 cX hc Lb Qm Kl Es Dp;obtain⟨x,hx⟩:=Ae (g k);simp only[hx]at d0 d1 d2 d3 d4 d5 Dl qbs A6 Bu Bs;clear hx;obtain⟨kx,m1,x1,m2,x2,xi⟩:=x;dsimp only at Bu Bs;subst Bu Bs
   have Bd:∀ u∈(⟨kx,m1,.slice a1 n1' m1',m2,.slice a2 n2' m2',xi⟩:Vv).cells,u.oneCell'=true:=by simp[Value.oneCell']
   go_upto_region 7 with fail
   iterate 16 go_step
   refine Iu rfl 41 (.tmp 4) (.tmp 39) rfl (⟨kx,m1,.slice a1 n1' m1',m2,.slice a2 n2' m2',xi⟩:Vv).cells _ zqc rfl Bd wr.heap.size rfl rfl rfl ?_;obtain⟨W2,Ax⟩:=Ae (wr.alloc (.cells (⟨kx,m1,.slice a1 n1' m1',m2,.slice a2 n2' m2',xi⟩:Vv).cells 41))
   have b2:Below wr.heap.size wr W2:=by rw[<- Ax];exact Af _ _
   have q2:Blk W2 wr.heap.size (⟨kx,m1,.slice a1 n1' m1',m2,.slice a2 n2' m2',xi⟩:Vv).cells 41:=by rw[<- Ax];exact Blk.new wr _ _
   have s2:W2.heap.size=wr.heap.size+1:=by rw[<- Ax];simp
   have qB:Blk W2 B _ 46:=hq.below b2 (by omega);have zn7:=Ax;rw[Ax];clear Ax zn7 d0 d1 d2 d3 d4 d5 hq;obtain⟨Bv,ql2⟩:∃ b,wr.heap.size=b:=⟨_,rfl⟩;rw[ql2]at q2 Gq b2 s2 Fh Dl qbs ⊢;have ja4:=Aa ql2;clear ql2
   go_upto_region 8 with fail
   obtain⟨ckk,wY⟩:∃ c,(kx==kd)=c:=⟨_,rfl⟩
   have At:(kx != kd) = !ckk:=by rw[<- wY];rfl
   cases ckk with
   | false =>
    have hr:r=false:=qio.out (by rw[A6.out];simp[wY]);subst hr;refine Fz (fun W'=>Below (Bv+1) W2 W') [] (by kernel_rfl) ?_;have qS:(fun W'=>Below (Bv+1) W2 W') W2.drew:=Er (Below.refl _ _);refine Am (i:=0) (v:=.pointer (some ⟨Bv,0,none⟩)) rfl qS ?_;refine Ar (i:=1) (v:=.int .u8 kx) rfl (.inl ⟨by kernel_rfl,fun W' hS=>by have u0:=(q2.below hS (by omega)).at (i:=0) rfl;go_simp⟩) qS ?_;refine Am (i:=2) (v:=.pointer (some ⟨B,9,none⟩)) rfl qS ?_;refine Ar (i:=3) (v:=.int .u8 kd) rfl (.inl ⟨by kernel_rfl,fun W' hS=>by have u9:=(qB.below hS (by omega)).at (i:=9) rfl;go_simp⟩) qS ?_;refine Am (i:=4) (v:=.bool true) rfl qS ?_;refine Am (i:=5) (v:=.bool true) rfl qS ?_;refine Ar (i:=6) (v:=undef) rfl (.inr ⟨by kernel_rfl,rfl⟩) qS ?_;refine Ar (i:=7) (v:=undef) rfl (.inr ⟨by kernel_rfl,rfl⟩) qS ?_;refine Ar (i:=8) (v:=undef) rfl (.inr ⟨by kernel_rfl,rfl⟩) qS ?_;refine Am (i:=9) (v:=.bool true) rfl qS ?_;refine Am (i:=10) (v:=.bool true) rfl qS ?_;refine Ar (i:=11) (v:=undef) rfl (.inr ⟨by kernel_rfl,rfl⟩) qS ?_;refine Ar (i:=12) (v:=undef) rfl (.inr ⟨by kernel_rfl,rfl⟩) qS ?_;refine Ar (i:=13) (v:=undef) rfl (.inr ⟨by kernel_rfl,rfl⟩) qS ?_;refine Ar (i:=14) (v:=undef) rfl (.inr ⟨by kernel_rfl,rfl⟩) qS ?_;refine Ar (i:=15) (v:=undef) rfl (.inr ⟨by kernel_rfl,rfl⟩) qS ?_;refine Ar (i:=16) (v:=undef) rfl (.inr ⟨by kernel_rfl,rfl⟩) qS ?_;refine Ar (i:=17) (v:=undef) rfl (.inr ⟨by kernel_rfl,rfl⟩) qS ?_;refine Ar (i:=18) (v:=undef) rfl (.inr ⟨by kernel_rfl,rfl⟩) qS ?_;refine Ar (i:=19) (v:=undef) rfl (.inr ⟨by kernel_rfl,rfl⟩) qS ?_;refine Ar (i:=20) (v:=undef) rfl (.inr ⟨by kernel_rfl,rfl⟩) qS ?_;refine Ar (i:=21) (v:=undef) rfl (.inr ⟨by kernel_rfl,rfl⟩) qS ?_;refine Ar (i:=22) (v:=undef) rfl (.inr ⟨by kernel_rfl,rfl⟩) qS ?_;refine Ar (i:=23) (v:=undef) rfl (.inr ⟨by kernel_rfl,rfl⟩) qS ?_;refine Am (i:=24) (v:=.bool true) rfl qS ?_;refine Eo (by kernel_rfl) ?_ _;go_simp
    iterate 11 go_step
    change bodyPost _ _ (fun e w'=>e=.returned (.bool false)/\Below B w w') .ret _ _
    go_ret
    exact⟨rfl,b1.trans ((Bb.mono (by omega)).trans ((b2.mono (by omega)).trans (qS.mono (by omega))))⟩
   | true =>
    obtain rfl:kx=kd:=by simpa using wY
    clear wY At;refine Fz (fun W'=>Below (Bv+1) W2 W') [] (by kernel_rfl) ?_;have qS:(fun W'=>Below (Bv+1) W2 W') W2.drew:=Er (Below.refl _ _);refine Am (i:=0) (v:=.pointer (some ⟨Bv,0,none⟩)) rfl qS ?_;refine Ar (i:=1) (v:=.int .u8 kx) rfl (.inl ⟨by kernel_rfl,fun W' hS=>by have u0:=(q2.below hS (by omega)).at (i:=0) rfl;go_simp⟩) qS ?_;refine Am (i:=2) (v:=.pointer (some ⟨B,9,none⟩)) rfl qS ?_;refine Ar (i:=3) (v:=.int .u8 kx) rfl (.inl ⟨by kernel_rfl,fun W' hS=>by have u9:=(qB.below hS (by omega)).at (i:=9) rfl;go_simp⟩) qS ?_;refine Am (i:=4) (v:=.bool false) rfl qS ?_;refine Am (i:=5) (v:=.bool false) rfl qS ?_;refine Ar (i:=6) (v:=.agg #[.int .u8 kx,.bool m1,.slice a1 n1' m1',.bool m2,.slice a2 n2' m2',.int .i64 xi]) rfl (.inl ⟨by kernel_rfl,fun W' hS=>by have u0:=(q2.below hS (by omega)).at (i:=0) rfl;have u1:=(q2.below hS (by omega)).at (i:=1) rfl;have u2:=(q2.below hS (by omega)).at (i:=2) rfl;have u3:=(q2.below hS (by omega)).at (i:=3) rfl;have u4:=(q2.below hS (by omega)).at (i:=4) rfl;have u5:=(q2.below hS (by omega)).at (i:=5) rfl;go_simp⟩) qS ?_;refine Ap (i:=7) rfl ?_;go_simp
    refine(Dl.out _ (b2.trans (qS.mono (by omega)))).mono ?_;rintro e w3 ⟨rfl,Ak⟩;have qS3:Below (Bv+1) W2 w3:=qS.trans (Ak.mono (by have := qS.size;omega));go_simp
    cases rv with
    | false =>
     have hr:r=false:=qio.out (by rw[A6.out];simp);subst hr;refine Am (i:=8) (v:=.bool true) rfl qS3 ?_;refine Am (i:=9) (v:=.bool true) rfl qS3 ?_;refine Am (i:=10) (v:=.bool true) rfl qS3 ?_;refine Ar (i:=11) (v:=undef) rfl (.inr ⟨by kernel_rfl,rfl⟩) qS3 ?_;refine Ar (i:=12) (v:=undef) rfl (.inr ⟨by kernel_rfl,rfl⟩) qS3 ?_;refine Ar (i:=13) (v:=undef) rfl (.inr ⟨by kernel_rfl,rfl⟩) qS3 ?_;refine Ar (i:=14) (v:=undef) rfl (.inr ⟨by kernel_rfl,rfl⟩) qS3 ?_;refine Ar (i:=15) (v:=undef) rfl (.inr ⟨by kernel_rfl,rfl⟩) qS3 ?_;refine Ar (i:=16) (v:=undef) rfl (.inr ⟨by kernel_rfl,rfl⟩) qS3 ?_;refine Ar (i:=17) (v:=undef) rfl (.inr ⟨by kernel_rfl,rfl⟩) qS3 ?_;refine Ar (i:=18) (v:=undef) rfl (.inr ⟨by kernel_rfl,rfl⟩) qS3 ?_;refine Ar (i:=19) (v:=undef) rfl (.inr ⟨by kernel_rfl,rfl⟩) qS3 ?_;refine Ar (i:=20) (v:=undef) rfl (.inr ⟨by kernel_rfl,rfl⟩) qS3 ?_;refine Ar (i:=21) (v:=undef) rfl (.inr ⟨by kernel_rfl,rfl⟩) qS3 ?_;refine Ar (i:=22) (v:=undef) rfl (.inr ⟨by kernel_rfl,rfl⟩) qS3 ?_;refine Ar (i:=23) (v:=undef) rfl (.inr ⟨by kernel_rfl,rfl⟩) qS3 ?_;refine Am (i:=24) (v:=.bool true) rfl qS3 ?_;refine Eo (by kernel_rfl) ?_ _;go_simp
     iterate 11 go_step
     change bodyPost _ _ (fun e w'=>e=.returned (.bool false)/\Below B w w') .ret _ _
     go_ret
     exact⟨rfl,b1.trans ((Bb.mono (by omega)).trans ((b2.mono (by omega)).trans (qS3.mono (by omega))))⟩
    | true =>
     by_cases On:k=0
     ·have Li:Vx kx s.cuts 0=true:=by rw[<- On,A6.out,On];simp
      subst On;refine Am (i:=8) (v:=.bool false) rfl qS3 ?_;refine Am (i:=9) (v:=.bool false) rfl qS3 ?_;refine Am (i:=10) (v:=.bool false) rfl qS3 ?_;refine Am (i:=11) (v:=.int .i64 0) rfl qS3 ?_;refine Am (i:=12) (v:=.bool false) rfl qS3 ?_;refine Am (i:=13) (v:=.bool false) rfl qS3 ?_;refine Ar (i:=14) (v:=undef) rfl (.inr ⟨by kernel_rfl,rfl⟩) qS3 ?_;refine Ar (i:=15) (v:=undef) rfl (.inr ⟨by kernel_rfl,rfl⟩) qS3 ?_;refine Ar (i:=16) (v:=undef) rfl (.inr ⟨by kernel_rfl,rfl⟩) qS3 ?_;refine Ar (i:=17) (v:=undef) rfl (.inr ⟨by kernel_rfl,rfl⟩) qS3 ?_;refine Ar (i:=18) (v:=undef) rfl (.inr ⟨by kernel_rfl,rfl⟩) qS3 ?_;refine Ar (i:=19) (v:=undef) rfl (.inr ⟨by kernel_rfl,rfl⟩) qS3 ?_;refine Ar (i:=20) (v:=undef) rfl (.inr ⟨by kernel_rfl,rfl⟩) qS3 ?_;refine Ar (i:=21) (v:=undef) rfl (.inr ⟨by kernel_rfl,rfl⟩) qS3 ?_;refine Ar (i:=22) (v:=undef) rfl (.inr ⟨by kernel_rfl,rfl⟩) qS3 ?_;refine Am (i:=23) (v:=.bool false) rfl qS3 ?_;refine Am (i:=24) (v:=.bool false) rfl qS3 ?_;refine Eo (by kernel_rfl) ?_ _;go_simp
      iterate 14 go_step
      change _/\_
      go_roundw
      case rel=>exact⟨1,by omega,by simp,Bb.trans ((b2.mono (by omega)).trans (qS3.mono (by omega))),Aa fun j hj=>(by rw[show j=0 by omega];exact Li)⟩
      case measure=>simp[intOf];omega
     ·obtain⟨k',Ji⟩:∃ k',k=k'+1:=⟨k-1,by omega⟩
      obtain⟨p0,p1,p2,p3,p4,p5⟩:=vQ.out k' Ji;have qfn:=qbs.out k' Ji rfl rfl;have S9:=X9.out k' Ji;obtain⟨p,hp⟩:=Ae (g k');obtain⟨ci,Ik⟩:=Ae (Te (s.cuts[k']?.getD v0) (s.cuts[k]?.getD v0));rw[hp]at p0 p1 p2 p3 p4 p5 qfn;simp only[Ik]at qfn S9;clear hp Ik qbs X9 vQ Dl;obtain⟨kp,n1,y1,n2,y2,yi⟩:=p
      have Li:Vx kx s.cuts k = !decide (0<=ci):=by rw[A6.out,S9];simp[On]
      have wE:=Aa Li;clear S9 Li;obtain⟨cg,xD⟩:∃ c,decide (0<=ci)=c:=⟨_,rfl⟩;subst Ji;have HP:=Aa (show _/\_/\_/\_/\_/\_ from⟨p0,p1,p2,p3,p4,p5⟩);have bW:Below Bv wr W2:=b2;clear p0 p1 p2 p3 p4 p5;refine Am (i:=8) (v:=.bool false) rfl qS3 ?_;refine Am (i:=9) (v:=.bool false) rfl qS3 ?_;refine Am (i:=10) (v:=.bool false) rfl qS3 ?_;refine Am (i:=11) (v:=.int .i64 (k'+1:Nat)) rfl qS3 ?_;refine Am (i:=12) (v:=.bool true) rfl qS3 ?_;refine Am (i:=13) (v:=.bool true) rfl qS3 ?_;refine Am (i:=14) (v:=.pointer (some ⟨B,10,none⟩)) rfl qS3 ?_;refine Ar (i:=15) (v:=.slice (some ⟨cb,co,none⟩) n cm) rfl (.inl ⟨by kernel_rfl,fun W' hS=>by have u9:=(qB.below hS (by omega)).at (i:=10) rfl;go_simp⟩) qS3 ?_;refine Am (i:=16) (v:=.int .i64 (k'+1:Nat)) rfl qS3 ?_;refine Ar (i:=17) (v:=.int .i64 k') rfl (.inl ⟨by kernel_rfl,fun W' hS=>by have Kw:IntKind.i64.wrap (k':Int)=(k':Int):=IntWalk.i64_in _ (by omega);go_simp⟩) qS3 ?_;refine Ar (i:=18) (v:=.pointer (some ⟨cb,co+k'*6,none⟩)) rfl (.inl ⟨by kernel_rfl,fun W' hS=>by have dR:¬ n<=k':=(by omega);go_simp⟩) qS3 ?_;refine Ar (i:=19) (v:=.agg #[.int .u8 kp,.bool n1,y1,.bool n2,y2,.int .i64 yi]) rfl (.inl ⟨by kernel_rfl,fun W' hS=>by obtain⟨p0,p1,p2,p3,p4,p5⟩:=HP.out;have bz:Below Bv wr W':=bW.trans (hS.mono (by omega));have z0:=(bz.cell (p:=⟨cb,_,none⟩) Gq).trans p0;have z1:=(bz.cell (p:=⟨cb,_,none⟩) Gq).trans p1;have z2:=(bz.cell (p:=⟨cb,_,none⟩) Gq).trans p2;have z3:=(bz.cell (p:=⟨cb,_,none⟩) Gq).trans p3;have z4:=(bz.cell (p:=⟨cb,_,none⟩) Gq).trans p4;have z5:=(bz.cell (p:=⟨cb,_,none⟩) Gq).trans p5;clear p0 p1 p2 p3 p4 p5;go_simp⟩) qS3 ?_;refine Ar (i:=20) (v:=.agg #[.int .u8 kx,.bool m1,.slice a1 n1' m1',.bool m2,.slice a2 n2' m2',.int .i64 xi]) rfl (.inl ⟨by kernel_rfl,fun W' hS=>by have u0:=(q2.below hS (by omega)).at (i:=0) rfl;have u1:=(q2.below hS (by omega)).at (i:=1) rfl;have u2:=(q2.below hS (by omega)).at (i:=2) rfl;have u3:=(q2.below hS (by omega)).at (i:=3) rfl;have u4:=(q2.below hS (by omega)).at (i:=4) rfl;have u5:=(q2.below hS (by omega)).at (i:=5) rfl;go_simp⟩) qS3 ?_;refine Ap (i:=21) rfl ?_;go_simp
      refine(qfn _ (b2.trans (qS3.mono (by omega)))).mono ?_;rintro e w4 ⟨rfl,Al⟩;have qS4:Below (Bv+1) W2 w4:=qS3.trans (Al.mono (by have := qS3.size;omega));go_simp
      refine Am (i:=22) (v:=.bool cg) rfl qS4 ?_;refine Am (i:=23) (v:=.bool cg) rfl qS4 ?_;refine Am (i:=24) (v:=.bool cg) rfl qS4 ?_;refine Eo (by kernel_rfl) ?_ _
      cases cg with
      | false =>
       go_simp
       iterate 14 go_step
       change _/\_
       go_roundw
       case rel =>
        exact⟨k'+1+1,by omega,by simp,Bb.trans ((b2.mono (by omega)).trans (qS4.mono (by omega))),Aa fun j hj=>(by
        rcases Nat.lt_or_eq_of_le (Nat.le_of_lt_succ hj)with h | h
        ·exact Ld.out j h
        ·rw[h,wE.out,xD];rfl)⟩
       case measure=>simp[intOf];omega
      | true =>
       have hr:r=false:=qio.out (by rw[wE.out,xD];rfl);subst hr;go_simp
       iterate 11 go_step
       change bodyPost _ _ (fun e w'=>e=.returned (.bool false)/\Below B w w') .ret _ _
       go_ret
       exact⟨rfl,b1.trans ((Bb.mono (by omega)).trans ((b2.mono (by omega)).trans (qS4.mono (by omega))))⟩
  ·obtain rfl:k=n:=by omega
   have hr:r=true:=by
    rw[<- HR.out];have M1:=Z7.out;exact zbv HZ.out (by rw[Px.out];omega) (by rw[Px.out];omega) (by rw[HN.out];omega) (by rw[HN.out];omega) (fun j hj=>by rw[Px.out];exact Ld.out j (by rw[HN.out]at hj;exact hj))
   subst hr;go_wp2_with fail
   go_ret
   exact⟨rfl,b1.trans (Bb.mono (by omega))⟩
def Hd (kd:Int) (n:Nat):Nat:=if kd=0 then 2 else 2*n+1
theorem mE (sb so n cm:Nat) (a:Option Addr) (kd:Int) (w:World) (c9:w.cell? ⟨sb,so+9,none⟩=some (.int .u8 kd)) (c10:w.cell? ⟨sb,so+10,none⟩=some (.slice a n cm)) (hn:n<=2^38) :
  Calls Tryz.prog 22 #[.pointer (some ⟨sb,so,none⟩)] w fun e w'=>e=.returned (.int .i64 (Hd kd n))/\Below w.heap.size w w':=by
 by_cases h0:kd=0
 ·subst h0
  go_enter Tryz.func22,Tryz.ntmps22
  go_wp2_with fail
  go_ret
  exact⟨rfl,Below.refl _ _⟩
 ·have e0:(kd==0)=false:=by simpa using h0
  have Kw:IntKind.i64.wrap (2*(n:Int))=2*(n:Int):=IntWalk.i64_in _ (by omega);have Gs:IntKind.i64.wrap (2*(n:Int)+1)=2*(n:Int)+1:=IntWalk.i64_in _ (by omega)
  have hc:((Hd kd n:Nat):Int)=2*(n:Int)+1:=by unfold Hd;rw[if_neg h0];omega
  rw[hc];clear hc h0;go_enter Tryz.func22,Tryz.ntmps22
  go_wp2_with fail
  go_ret
  exact⟨rfl,Below.refl _ _⟩
def Ky (kd:Int):Bool:=kd==4 || kd==5 || kd==6
def loS (kd:Int) (l:List Vq) (c:Nat):Int:=if 0<c then(l[c/2-1]?.getD v0).i else if kd=4 then -1 else -1048577
def hiS (kd:Int) (l:List Vq) (c:Nat):Int:=if c/2<l.length then(l[c/2]?.getD v0).i else if kd=4 then 65536 else 1048577
def Tl (kd:Int) (l:List Vq) (c:Nat):Bool:=!Ky kd || c%2==1 || decide (1<hiS kd l c-loS kd l c)
def Sc.poss (s:Sc) (c:Int):Bool:=decide (0<=c) && decide (c<Hd s.kd s.cuts.length) && Tl s.kd s.cuts c.toNat
theorem zcl {kd:Int} (h:Ky kd=false):(kd==4)=false/\(kd==5)=false/\(kd==6)=false:=by
 unfold Ky at h;simp only[Bool.or_eq_false_iff]at h;exact⟨h.1.1,h.1.2,h.2⟩
theorem qcd {v:Vq} (h:v.ok=true) (hk:Ky v.kd=true) : -1048576<=v.i/\v.i<=1048576:=by
 unfold Ky at hk;simp only[Bool.or_eq_true,beq_iff_eq]at hk;unfold Vq.ok Vq.fr at h
 rcases hk with(hk | hk) | hk<;>rw[hk]at h<;>simp at h<;>omega
theorem zh0 (sb so:Nat) (c:Int) (w:World) (hc:c<0) :
  Calls Tryz.prog 23 #[.pointer (some ⟨sb,so,none⟩),.int .i64 c] w fun e w'=>e=.returned (.bool false)/\Below w.heap.size w w':=by
 have e0:decide (c<0)=true:=by simpa using hc
 clear hc;go_enter Tryz.func23,Tryz.ntmps23
 go_wp2_with fail
 go_ret
 exact⟨rfl,Below.refl _ _⟩
theorem zkz (sb so n cm:Nat) (a:Option Addr) (kd c:Int) (w:World) (Iq:0<=c) (hc:(Hd kd n:Int)<=c) (c9:w.cell? ⟨sb,so+9,none⟩=some (.int .u8 kd)) (c10:w.cell? ⟨sb,so+10,none⟩=some (.slice a n cm)) (hn:n<=2^38) :
  Calls Tryz.prog 23 #[.pointer (some ⟨sb,so,none⟩),.int .i64 c] w fun e w'=>e=.returned (.bool false)/\Below w.heap.size w w':=by
 have e0:decide (c<0)=false:=by simp;omega
 have Ao:=mE sb so n cm a kd w c9 c10 hn;obtain⟨m,hm⟩:=Ae (((Hd kd n:Nat):Int));rw[hm]at Ao hc
 have e1:decide (m<=c)=true:=by simpa using hc
 clear Iq hc hm c9 c10;go_enter Tryz.func23,Tryz.ntmps23
 go_wp2_with fail
 refine Ao.mono ?_;rintro e w2 ⟨rfl,Ai⟩;go_wp2_with fail
 go_ret
 exact⟨rfl,Ai⟩
theorem zxf (sb so n cm:Nat) (a:Option Addr) (kd c:Int) (w:World) (Iq:0<=c) (hc:c<Hd kd n) (Hw:sb<w.heap.size) (c9:w.cell? ⟨sb,so+9,none⟩=some (.int .u8 kd)) (c10:w.cell? ⟨sb,so+10,none⟩=some (.slice a n cm)) (hn:n<=2^38) (hk:Ky kd=false) :
  Calls Tryz.prog 23 #[.pointer (some ⟨sb,so,none⟩),.int .i64 c] w fun e w'=>e=.returned (.bool true)/\Below w.heap.size w w':=by
 have e0:decide (c<0)=false:=by simp;omega
 obtain⟨k4,k5,k6⟩:=zcl hk;have Ao:=mE sb so n cm a kd w c9 c10 hn;obtain⟨m,hm⟩:=Ae (((Hd kd n:Nat):Int));rw[hm]at Ao hc
 have e1:decide (m<=c)=false:=by simp;omega
 have H9:=Aa c9;clear Iq hc hm c9 c10 hk;go_enter Tryz.func23,Tryz.ntmps23
 go_wp2_with fail
 refine Ao.mono ?_;rintro e w2 ⟨rfl,Ai⟩;have c9:w2.cell? ⟨sb,so+9,none⟩=some (.int .u8 kd):=(Ai.cell (p:=⟨sb,so+9,none⟩) Hw).trans H9.out;go_wp2_with fail
 go_ret
 exact⟨rfl,Ai⟩
theorem zo8 (sb so n cm m:Nat) (a:Option Addr) (kd:Int) (w:World) (hc:2*m+1<Hd kd n) (Hw:sb<w.heap.size) (c9:w.cell? ⟨sb,so+9,none⟩=some (.int .u8 kd)) (c10:w.cell? ⟨sb,so+10,none⟩=some (.slice a n cm)) (hn:n<=2^38) (hk:Ky kd=true) :
  Calls Tryz.prog 23 #[.pointer (some ⟨sb,so,none⟩),.int .i64 ((2*m+1:Nat):Int)] w fun e w'=>e=.returned (.bool true)/\Below w.heap.size w w':=by
 have Ao:=mE sb so n cm a kd w c9 c10 hn;obtain⟨c,Gg⟩:=Ae (2*m+1)
 have hb:Hd kd n<=2^39+1:=by unfold Hd;split<;>omega
 have nW:Int.tmod (c:Int) 2=1:=by rw[Int.tmod_eq_emod_of_nonneg (by omega)];omega
 rw[Gg]at hc ⊢;obtain⟨q,hm⟩:=Ae (Hd kd n);rw[hm]at Ao hc hb
 have e1:decide ((q:Int)<=c)=false:=by simp;omega
 have e0:decide ((c:Int)<0)=false:=by simp
 have H9:=Aa c9;clear hm c9 c10 Gg;unfold Ky at hk;simp only[Bool.or_eq_true,beq_iff_eq]at hk
 rcases hk with(rfl | rfl) | rfl
 all_goals
  go_enter Tryz.func23,Tryz.ntmps23
  go_wp2_with fail
  refine Ao.mono ?_;rintro e w2 ⟨rfl,Ai⟩;have c9:=(Ai.cell (p:=⟨sb,so+9,none⟩) Hw).trans H9.out;go_wp2_with fail
  go_ret
  exact⟨rfl,Ai⟩
theorem zms (K sb so m:Nat) (cv:Value) (l:List Vq) (kd:Int) (w:World) (hl:Yl K w cv l) (hK:K<=w.heap.size) (hm:m<=l.length) (Hw:sb<w.heap.size) (c9:w.cell? ⟨sb,so+9,none⟩=some (.int .u8 kd)) (c10:w.cell? ⟨sb,so+10,none⟩=some cv) (hn:l.length<=2^38) (hk:Ky kd=true)
  (hb:∀ c∈l,-1048576<=c.i/\c.i<=1048576) :
  Calls Tryz.prog 23 #[.pointer (some ⟨sb,so,none⟩),.int .i64 ((2*m:Nat):Int)] w fun e w'=>e=.returned (.bool (decide (1<hiS kd l (2*m)-loS kd l (2*m))))/\Below w.heap.size w w':=by
 obtain⟨g,hg,Qf⟩:=hl;obtain⟨va,vcap,rfl,Bu,Bs⟩:=id hg.form;unfold maxLen at Bs;have Ao:=mE sb so l.length vcap va kd w c9 c10 hn
 have Yx:kd≠0:=by rintro rfl;revert hk;decide
 have Li:Hd kd l.length=2*l.length+1:=by unfold Hd;rw[if_neg Yx]
 rw[Li]at Ao;obtain⟨n,Et⟩:=Ae l.length;obtain⟨H,hH⟩:=Ae (hiS kd l (2*m));obtain⟨L,hL⟩:=Ae (loS kd l (2*m))
 have Ip:∀ i,i<n -> -1048576<=(l[i]?.getD v0).i/\(l[i]?.getD v0).i<=1048576:=fun i hi=>by
  rw[Ac (by omega)];exact hb _ (List.getElem_mem (by omega))
 have Kx:L=if 0<m then(l[m-1]?.getD v0).i else if kd=4 then -1 else -1048577:=by
  rw[<- hL];unfold loS;rw[show 2*m/2=m by omega]
  by_cases h:0<m
  ·rw[if_pos (by omega),if_pos h]
  ·rw[if_neg (by omega),if_neg h]
 have Ny:H=if m<n then(l[m]?.getD v0).i else if kd=4 then 65536 else 1048577:=by
  rw[<- hH];unfold hiS;rw[show 2*m/2=m by omega,Et]
 have zxs : -1048577<=L/\L<=1048576:=by
  rw[Kx];split
  ·have := Ip (m-1) (by omega);omega
  ·split<;>omega
 have zzc : -1048576<=H/\H<=1048577:=by
  rw[Ny];split
  ·have := Ip m (by omega);omega
  ·split<;>omega
 have hw:IntKind.i64.wrap (H-L)=H-L:=IntWalk.i64_in _ (by omega);rw[hH,hL]
 have nW:Int.tmod ((2*m:Nat):Int) 2=0:=by rw[Int.tmod_eq_emod_of_nonneg (by omega)];omega
 have U9:Int.tdiv ((2*m:Nat):Int) 2=m:=by rw[Int.tdiv_eq_ediv_of_nonneg (by omega)];omega
 rw[Et]at Ao hn hm Bu hg Qf
 have Ba:∀ i,i<n->∃ cb co,va=some ⟨cb,co,none⟩/\cb<w.heap.size/\w.cell? ⟨cb,co+i*6+5,none⟩=some (.int .i64 (l[i]?.getD v0).i):=fun i hi=>by
  obtain⟨cb,co,cap,he,_,_,Cj,hc⟩:=hg.pos (by omega);simp only[Value.slice.injEq]at he;exact⟨cb,co,he.1,by omega,by rw[(rV hc hi).2.2.2.2.2,(Qf i hi).i]⟩
 have qq5:IntKind.i64.wrap ((m:Int)-1)=(m:Int)-1:=IntWalk.i64_in _ (by omega);have xP:=Aa (show w.cell? ⟨sb,so+10,none⟩=some (.slice va n vcap)by rw[<- Et];exact c10);have H9:=Aa c9;have zbn:=Aa Kx;have qbq:=Aa Ny;have Hl:=Aa Ba;obtain⟨c,Gg⟩:=Ae (2*m);rw[Gg]at nW U9 ⊢
 have e1:decide ((2*(n:Int)+1)<=c)=false:=by simp;omega
 have e0:decide ((c:Int)<0)=false:=by simp
 have ec:(0<m)=(0<(c:Int)):=by apply propext;omega
 have zxu:=Aa ec;have Vk:=Aa Gg;clear hg Qf c9 c10 Kx Ny Ba hb Ip Yx Li hH hL Gg ec;unfold Ky at hk;simp only[Bool.or_eq_true,beq_iff_eq]at hk
 cases m with
 | zero =>
  have Iq:c=0:=by have := Vk.out;omega
  subst Iq;have hL:=zbn.out;rw[if_neg (Nat.lt_irrefl 0)]at hL
  by_cases Ij:0<n
  ·obtain⟨cb,co,rfl,Fx,Vs⟩:=Hl.out 0 Ij
   have hH:=qbq.out;rw[if_pos Ij]at hH;rw[<- hH,Nat.zero_mul,Nat.add_zero]at Vs;have H5:=Aa Vs;clear Vs hH
   rcases hk with(rfl | rfl) | rfl
   all_goals
    subst hL;go_enter Tryz.func23,Tryz.ntmps23
    go_wp2_with fail
    refine Ao.mono ?_;rintro e w2 ⟨rfl,Ai⟩;have c9:=(Ai.cell (p:=⟨sb,so+9,none⟩) Hw).trans H9.out;have c10:=(Ai.cell (p:=⟨sb,so+10,none⟩) Hw).trans xP.out;have c5:=(Ai.cell (p:=⟨cb,co+5,none⟩) Fx).trans H5.out;go_wp2_with fail
    go_ret
    exact⟨rfl,Ai⟩
  ·have hH:=qbq.out
   rw[if_neg Ij]at hH
   obtain rfl:n=0:=by omega
   rcases hk with(rfl | rfl) | rfl
   all_goals
    subst hL hH;go_enter Tryz.func23,Tryz.ntmps23
    go_wp2_with fail
    refine Ao.mono ?_;rintro e w2 ⟨rfl,Ai⟩;have c9:=(Ai.cell (p:=⟨sb,so+9,none⟩) Hw).trans H9.out;have c10:=(Ai.cell (p:=⟨sb,so+10,none⟩) Hw).trans xP.out;go_wp2_with fail
    go_ret
    exact⟨rfl,Ai⟩
 | succ m =>
  have hL:=zbn.out;rw[if_pos (Nat.succ_pos m),Nat.add_sub_cancel]at hL;obtain⟨cb,co,rfl,Fx,Vs⟩:=Hl.out m (by omega);rw[<- hL]at Vs;have H5:=Aa Vs;have Kw:IntKind.i64.wrap (m:Int)=(m:Int):=IntWalk.i64_in _ (by omega)
  have dR:¬ n<=m:=by omega
  have e2:decide (0<(c:Int))=true:=by have := Vk.out;simp;omega
  have Iq:0<c:=by have := Vk.out;omega
  clear Vs hL qq5
  by_cases Ij:m+1<n
  ·obtain⟨cb',co',he,_,nX⟩:=Hl.out (m+1) Ij
   simp only[Option.some.injEq,Addr.mk.injEq,and_true]at he;obtain⟨rfl,rfl⟩:=he;have hH:=qbq.out;rw[if_pos Ij]at hH;rw[<- hH]at nX;have H6:=Aa nX;clear nX hH
   have zgn:¬ n<=m+1:=by omega
   have e3:decide (((m:Int)+1)<n)=true:=by simp;omega
   rcases hk with(rfl | rfl) | rfl
   all_goals
    go_enter Tryz.func23,Tryz.ntmps23
    go_wp2_with fail
    refine Ao.mono ?_;rintro e w2 ⟨rfl,Ai⟩;have c9:=(Ai.cell (p:=⟨sb,so+9,none⟩) Hw).trans H9.out;have c10:=(Ai.cell (p:=⟨sb,so+10,none⟩) Hw).trans xP.out;have c5:=(Ai.cell (p:=⟨cb,co+m*6+5,none⟩) Fx).trans H5.out;have c6:=(Ai.cell (p:=⟨cb,co+(m+1)*6+5,none⟩) Fx).trans H6.out;go_wp2_with fail
    go_ret
    exact⟨rfl,Ai⟩
  ·have hH:=qbq.out
   rw[if_neg Ij]at hH
   have e3:decide (((m:Int)+1)<n)=false:=by simp;omega
   rcases hk with(rfl | rfl) | rfl
   all_goals
    subst hH;go_enter Tryz.func23,Tryz.ntmps23
    go_wp2_with fail
    refine Ao.mono ?_;rintro e w2 ⟨rfl,Ai⟩;have c9:=(Ai.cell (p:=⟨sb,so+9,none⟩) Hw).trans H9.out;have c10:=(Ai.cell (p:=⟨sb,so+10,none⟩) Hw).trans xP.out;have c5:=(Ai.cell (p:=⟨cb,co+m*6+5,none⟩) Fx).trans H5.out;go_wp2_with fail
    go_ret
    exact⟨rfl,Ai⟩
theorem yG (K sb so:Nat) (cv:Value) (s:Sc) (c:Int) (w:World) (hl:Yl K w cv s.cuts) (hK:K<=w.heap.size) (Hw:sb<w.heap.size) (c9:w.cell? ⟨sb,so+9,none⟩=some (.int .u8 s.kd)) (c10:w.cell? ⟨sb,so+10,none⟩=some cv) (hn:s.cuts.length<=2^38)
  (Ay:∀ v∈s.cuts,v.ok=true/\v.kd=s.kd):Calls Tryz.prog 23 #[.pointer (some ⟨sb,so,none⟩),.int .i64 c] w fun e w'=>e=.returned (.bool (s.poss c))/\Below w.heap.size w w':=by
 obtain⟨va,vcap,hv,_,_⟩:=hl.form
 by_cases h0:c<0
 ·rw[show s.poss c=false by unfold Sc.poss;rw[show decide (0<=c)=false by simp;omega];simp]
  exact zh0 sb so c w h0
 by_cases h1:(Hd s.kd s.cuts.length:Int)<=c
 ·rw[show s.poss c=false by unfold Sc.poss;rw[show decide (c<(Hd s.kd s.cuts.length:Int))=false by simp;omega];simp]
  exact zkz sb so s.cuts.length vcap va s.kd c w (by omega) h1 c9 (by rw[<- hv];exact c10) hn
 have hp:s.poss c=Tl s.kd s.cuts c.toNat:=by
  unfold Sc.poss;rw[show decide (0<=c)=true by simp;omega,show decide (c<(Hd s.kd s.cuts.length:Int))=true by simp;omega];simp
 rw[hp]
 cases hk:Ky s.kd with
 | false =>
  rw[show Tl s.kd s.cuts c.toNat=true by unfold Tl;rw[hk];rfl];exact zxf sb so s.cuts.length vcap va s.kd c w (by omega) (by omega) Hw c9 (by rw[<- hv];exact c10) hn hk
 | true =>
  obtain⟨k,rfl⟩:∃ k:Nat,c=k:=⟨c.toNat,by omega⟩;rw[Int.toNat_natCast]
  rcases Nat.mod_two_eq_zero_or_one k with h2 | h2
  ·obtain⟨m,rfl⟩:∃ m,k=2*m:=⟨k/2,by omega⟩
   rw[show Tl s.kd s.cuts (2*m)=decide (1<hiS s.kd s.cuts (2*m)-loS s.kd s.cuts (2*m))by unfold Tl;rw[hk,h2];simp]
   have Yx:s.kd≠0:=by intro e;rw[e]at hk;revert hk;decide
   have:Hd s.kd s.cuts.length=2*s.cuts.length+1:=by unfold Hd;rw[if_neg Yx]
   exact zms K sb so m cv s.cuts s.kd w hl hK (by omega) Hw c9 c10 hn hk (fun v hv=>qcd (Ay v hv).1 (by rw[(Ay v hv).2];exact hk))
  ·obtain⟨m,rfl⟩:∃ m,k=2*m+1:=⟨k/2,by omega⟩
   rw[show Tl s.kd s.cuts (2*m+1)=true by unfold Tl;rw[h2];simp];exact zo8 sb so s.cuts.length vcap m va s.kd w (by omega) Hw c9 (by rw[<- hv];exact c10) hn hk
theorem iY {s:Sc} (h:s.okB=true):∀ v∈s.cuts,v.ok=true/\v.kd=s.kd:=by
 intro v hv
 unfold Sc.okB at h
 split at h
 ·rw[beq_iff_eq]at h
  rw[List.length_eq_zero_iff.1 h]at hv;cases hv
 ·simp only[Bool.and_eq_true,List.all_eq_true,List.mem_range]at h
  obtain⟨j,hj,rfl⟩:=List.mem_iff_getElem.1 hv;have := h.2 j hj;unfold Vx at this;rw[Ac hj,Option.getD_some]at this;simp only[Bool.and_eq_true,beq_iff_eq]at this;exact⟨this.1.2,this.1.1⟩
end Go.Proofs.YtlldjmagbjjeoaaGreatDoor
