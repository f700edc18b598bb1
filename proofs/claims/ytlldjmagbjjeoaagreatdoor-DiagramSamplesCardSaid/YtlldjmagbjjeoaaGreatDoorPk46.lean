/- Contracts and plain laws, several texts in one (GBesF, GSmpX, DAwOk). No conditions beyond those stated. -/
import Derived.Test.YtlldjmagbjjeoaaGreatDoorPk45
set_option maxRecDepth 100000
set_option maxHeartbeats 40000000
namespace Go.Proofs.YtlldjmagbjjeoaaGreatDoor
open Go.RowKit
set_option linter.unusedVariables false
theorem zfk {w W:World} {p:Addr} {x:Value} (h:w.cell? p=some x) (ha:∀ o,w.heap[p.block]?=some o->o.isCells=true->W.heap[p.block]?=some o):W.cell? p=some x:=by
 unfold World.cell? at h ⊢
 cases ho:w.heap[p.block]? with
 | none=>rw[ho]at h;cases h
 | some o =>
  rw[ho]at h
  cases o with
  | cells c t f=>rw[ha _ ho rfl];exact h
  | _=>cases h
theorem Lm.zed {K L hi:Nat} {w:World} {v:Value} {l:List Nat} (h:Lm K w v l) (hn:Bj L v) (hK:K<=hi):Zed (Btw L hi) w (fun K W=>Lm K W v l):=by
 intro W K' ha Qa
 obtain⟨⟨a,cap,he,h1,h2,h3,h4⟩,h5⟩:=h;refine⟨⟨a,cap,he,h1,h2,h3,fun i Fj=>?_⟩,h5⟩;obtain⟨b,o,k1,k2,k3⟩:=h4 i Fj;have hb:=hn b o _ _ (by rw[he,k1]);exact⟨b,o,k1,Qa b ⟨hb,by omega⟩,fun j hj=>zfk (k3 j hj) fun x hx hc=>ha b x ⟨hb,by omega⟩ hx hc⟩
theorem QxN.parts {L K:Nat} {w:World} {x:Value} {p:Int} {q:Nat} (h:QxN L K w x p q):∃ a1 n1 c1 a2 n2 c2,x=Fg (decide (p<0)) (.slice a1 n1 c1) false (.slice a2 n2 c2)/\Qv K w (decide (p<0)) (.slice a1 n1 c1) (.slice a2 n2 c2) p q ∧
  (∀ hi,K<=hi->Zed (Btw L hi) w (fun K W=>Lm K W (.slice a1 n1 c1) (limbs p.natAbs)/\Lm K W (.slice a2 n2 c2) (limbs q))):=by
 obtain⟨g,u,v,rfl,hq,Es,Dp⟩:=h;obtain rfl:=hq.n.sg;obtain⟨a1,n1,c1,rfl⟩:=hq.n.form;obtain⟨a2,n2,c2,rfl⟩:=hq.d.form;have h1:=hq.n.ln.limbs;have h2:=hq.d.ln.limbs;rw[Int.natAbs_natCast]at h2;exact⟨a1,n1,c1,a2,n2,c2,rfl,hq,fun hi hK W K' ha Qa=>⟨h1.zed Es hK W K' ha Qa,h2.zed Dp hK W K' ha Qa⟩⟩
theorem qzc {K:Nat} {w:World} {kd p:Int} {q:Nat} {u v:Value} (h:Lm K w u (limbs p.natAbs)/\Lm K w v (limbs q)):VlX K w (Td kd p q) ⟨kd,decide (p<0),u,false,v,0⟩:=⟨rfl,rfl,rfl,rfl,h.1,h.2⟩
theorem VlX.qv {K:Nat} {w:World} {v:Vq} {x:Vv} (h:VlX K w v x) (hk:v.kd=2\/v.kd=3) (ho:v.ok=true) (hg:v.good=true):x.b2=false/\x.i=0/\Qv K w x.b1 x.s1 x.s2 (sgz v.g1 (As v.l1)) (As v.l2)/\As v.l1<LB 64/\As v.l2<LB 64:=by
 have hf:v.fr=true:=by unfold Vq.fr;rcases hk with h | h<;>rw[h]<;>rfl
 have h1:=(qaw hf ho).1;obtain⟨z1,qv⟩:=h.n.qv h.d h1;obtain⟨_,h2,_⟩:=xB hk ho hg;obtain⟨s1,s2⟩:=Vq.short hg;rw[h.b2,h.i,h.b1];refine⟨z1,h2,qv,?_,?_⟩
 ·rw[cN];exact Nat.lt_of_lt_of_le (Nd v.l1 h.n.2) (cP s1)
 ·rw[cN];exact Nat.lt_of_lt_of_le (Nd v.l2 h.d.2) (cP s2)
theorem qpa:(Tryz.prog.info? 39).map (fun i=>i.size)=some 4:=by kernel_rfl
theorem zbz (kk:Int) (Id:∀ W,Calls Tryz.prog 109 #[.int .i64 kk] W fun e w'=>∃ x,e=.returned x/\ZxN W.heap.size w'.heap.size w' x kk/\Below W.heap.size W w') (Sg:kk.natAbs<LB 1) (v:Vq) (hk:v.kd=2\/v.kd=3) (ho:v.ok=true) (hg:v.good=true):jO v kk (Qw v kk):=by
 intro x w h
 obtain⟨Ai,hi,Hq,Jy,Qj⟩:=h.qv hk ho hg;have Wh:=h.kd;obtain⟨m,hm⟩:=Ae (sgz v.g1 (As v.l1));obtain⟨n,hn⟩:=Ae (As v.l2)
 have To:m.natAbs<LB 100:=by rw[<- hm,Ww];exact Bl Jy (by decide)
 have Et:n<LB 100:=by rw[<- hn];exact Bl Qj (by decide)
 obtain⟨r,hr⟩:=Ae (Qw v kk);have HR:Hid (r=Td v.kd (Ho (m*((1:Nat):Int)+kk*(n:Nat)) (n*1)) (Ic (m*((1:Nat):Int)+kk*(n:Nat)) (n*1))):=Aa (by rw[<- hr,<- hm,<- hn];rfl);rw[hr];rw[hm,hn]at Hq;obtain⟨a1,c1,Cp,_⟩:=h.n.form;obtain⟨a2,c2,Az,_⟩:=h.d.form;obtain⟨n1,Es⟩:∃ z,v.l1.length=z:=⟨_,rfl⟩;obtain⟨n2,Dp⟩:∃ z,v.l2.length=z:=⟨_,rfl⟩;rw[Es]at Cp;rw[Dp]at Az;obtain⟨kd,f1,s1,f2,s2,i⟩:=x;dsimp only at Ai hi Hq Cp Az Wh;subst Ai hi Cp Az;obtain⟨kv,tE⟩:∃ z,v.kd=z:=⟨_,rfl⟩;rw[tE]at hk HR Wh;subst Wh;obtain⟨W1,Ah⟩:=Ae ((w.alloc (.cells (⟨kd,f1,.slice a1 n1 c1,false,.slice a2 n2 c2,0⟩:Vv).cells 41)).alloc (.cells vv0.cells 41))
 have b1:Below w.heap.size w W1:=by rw[<- Ah];exact(Af _ _).alloc (by simp) _
 have q1:Blk W1 w.heap.size (⟨kd,f1,.slice a1 n1 c1,false,.slice a2 n2 c2,0⟩:Vv).cells 41:=by rw[<- Ah];exact(Blk.new w _ _).alloc _
 have q2:Blk W1 (w.heap.size+1) vv0.cells 41:=by
  rw[<- Ah];have := Blk.new (w.alloc (.cells (⟨kd,f1,.slice a1 n1 c1,false,.slice a2 n2 c2,0⟩:Vv).cells 41)) vv0.cells 41;rwa[World.size_alloc]at this
 have s1:W1.heap.size=w.heap.size+2:=by rw[<- Ah];simp
 obtain⟨B,hB⟩:=Ae w.heap.size;have HB:=Aa hB;have HW:=Aa Ah;rw[hB]at b1 q1 q2 s1 ⊢;dsimp only[Vv.cells,vv0]at HW;rw[hB]at Hq;have D9:=Aa (Hq.below b1 (Ab _) (show B<=W1.heap.size by omega));have zuu:=Aa To;have zcp:=Aa Et;obtain⟨c0,c1',c2',c3,c4,c5⟩:=q1.six;have Bc:=Aa q1;have Bw:=Aa q2;have Bi:=Aa b1;have S1:=Aa s1;have fP:=Aa Id;have Qk:=Aa Sg;clear Id Sg h ho hg hr hm hn Es Dp tE Jy Qj To Et Hq hB Ah q1 q2 b1 s1;go_enter Tryz.func48,Tryz.ntmps48
 go_upto_region 1 with fail
 simp only[HB.out];rw[HW.out]
 go_cut [15]from 8 to 15 (fun s wx=>s=.bool false/\W1=wx)
 case first =>
  rcases hk with rfl | rfl
  all_goals
   go_wp2_with fail
   all_goals go_meet
   all_goals exact⟨rfl,rfl⟩
 case rest =>
 obtain⟨rfl,rfl⟩:=hcut
 go_upto_region 3 with fail
 clear c0 c1' c2' c3 c4 c5;refine Fz (fun W'=>Below W1.heap.size W1 W') [] (by kernel_rfl) ?_;have qS:(fun W'=>Below W1.heap.size W1 W') W1.drew:=Er (Below.refl _ _)
 have lq1:B<W1.heap.size:=by have := S1.out;omega
 refine Aw (i:=0) (v:=.pointer (some ⟨B,1,none⟩)) (some 24) rfl rfl qS ?_;refine Dx (i:=1) (v:=.agg #[.bool f1,.slice a1 n1 c1,.bool false,.slice a2 n2 c2]) (some 25) rfl rfl (.inl ⟨by kernel_rfl,fun W' hS=>by have d0:=(Bc.out.below hS lq1).at (i:=1) rfl;have d1:=(Bc.out.below hS lq1).at (i:=2) rfl;have d2:=(Bc.out.below hS lq1).at (i:=3) rfl;have d3:=(Bc.out.below hS lq1).at (i:=4) rfl;go_simp⟩) qS ?_;refine Aw (i:=2) (v:=.int .i64 kk) (some 26) rfl rfl qS ?_
 refine ztr (c1:=3) (c2:=4) (i:=8) (L0:=?L0) (L1:=?L1) (A:=?A) (some 27) (some 28) (some 6) 3 39 #[.bool false,.slice none 0 0,.bool false,.slice none 0 0] (fun _ W=>Below W1.heap.size W1 W)
  (fun v1 Fp W=>Below W1.heap.size W1 W/\(∀ b,Fp b->b<W.heap.size)/\∃ (a3:Option Addr) (n3 c3:Nat) (a4:Option Addr) (n4 c4:Nat),v1=Fg (decide (kk<0)) (.slice a3 n3 c3) false (.slice a4 n4 c4)/\Qv W.heap.size W (decide (kk<0)) (.slice a3 n3 c3) (.slice a4 n4 c4) kk 1)
  (fun v1 v2 Fp W=>Below W1.heap.size W1 W/\(∀ b,Fp b->W1.heap.size<=b/\b<W.heap.size)/\∃ (a5:Option Addr) (n5 c5:Nat) (a6:Option Addr) (n6 c6:Nat),v2=.tuple #[Fg (decide (Ho (m*((1:Nat):Int)+kk*(n:Nat)) (n*1)<0)) (.slice a5 n5 c5) false (.slice a6 n6 c6),.int .i64 0]/\Zed Fp W (fun K W=>Lm K W (.slice a5 n5 c5) (limbs (Ho (m*((1:Nat):Int)+kk*(n:Nat)) (n*1)).natAbs)/\Lm K W (.slice a6 n6 c6) (limbs (Ic (m*((1:Nat):Int)+kk*(n:Nat)) (n*1)))))
  (by kernel_rfl) (by kernel_rfl) (by kernel_rfl) (by kernel_rfl) ?hrn ?hL rfl rfl (fun _=>rfl) (by decide) rfl rfl (fun _=>rfl) (by decide) (fun W W' h1 h2=>h1.trans (h2.mono h1.size)) qS rfl rfl (fun _=>rfl) (fun a W KK hK=>by go_simp;exact hK) (fun _ W W' h1 h2=>h1.trans (h2.mono h1.size)) ?st1 ?st2 ?step1 ?step2 ?htk0 ?htk1 ?hA qS ?h
 case htk0 | htk1 =>
  intro v1 v2 p Fp W' hF hS H
  refine Aw (i:=5) (v:=v2) (some 23) rfl rfl hS ?_;refine Dx (i:=6) (v:=mN v2 0) (some 29) rfl rfl (.inl ⟨by kernel_rfl,fun W' hS=>by obtain⟨_,_,_,_,_,_,_,_,rfl,_⟩:=hF;go_simp<;>rfl⟩) hS ?_;refine Dx (i:=7) (v:=mN v2 1) (some 30) rfl rfl (.inl ⟨by kernel_rfl,fun W' hS=>by obtain⟨_,_,_,_,_,_,_,_,rfl,_⟩:=hF;go_simp<;>rfl⟩) hS ?_;exact H
 case hrn=>kernel_rfl
 case hL=>rfl
 case hA=>intro v1 v2 p q;exact Vc (by decide) (Vc (by decide) (Vc (by decide) (Vc (by decide) (Vc (by decide) (qfg _ _ _ _)))))
 case st1 =>
  rintro v1 Fp W W' ⟨h1,h2,a3,n3,c3,a4,n4,c4,rfl,h3⟩ hb;exact⟨h1.trans (hb.mono h1.size),fun b hF=>Nat.lt_of_lt_of_le (h2 b hF) hb.size,a3,n3,c3,a4,n4,c4,rfl,h3.below hb (Ab _) hb.size⟩
 case st2 =>
  rintro v1 v2 Fp W W' ⟨h1,h2,a5,n5,c5,a6,n6,c6,rfl,h3⟩ hb;exact⟨h1.trans (hb.mono h1.size),fun b hF=>⟨(h2 b hF).1,Nat.lt_of_lt_of_le (h2 b hF).2 hb.size⟩,a5,n5,c5,a6,n6,c6,rfl,h3.move (Agr.of fun b Gl=>hb.block b (h2 b Gl).2)⟩
 case step1 =>
  intro Fp W p hF KK Hb
  go_simp
  refine(qrc kk W fP.out (Bl Qk.out (by decide))).mono ?_;rintro en w3 ⟨x,rfl,hx,Ak⟩;obtain⟨a3,n3,c3,a4,n4,c4,rfl,hq,_⟩:=hx.parts;exact Hb _ (fun _=>False) w3 ⟨hF.trans (Ak.mono hF.size),fun b hb=>hb.elim,a3,n3,c3,a4,n4,c4,rfl,hq⟩ (fun b hb=>hb.elim) Ak
 case step2 =>
  rintro v1 Fp W p ⟨hF,_,a3,n3,c3,a4,n4,c4,rfl,hq⟩ KK Hb;go_simp
  refine(qyx W.heap.size _ _ _ _ _ _ m kk n 1 W (D9.out.below hF (Ab _) hF.size) hq zuu.out zcp.out (Bl Qk.out (by decide)) (Bl (show(1:Nat)<LB 1 by decide) (by decide)) (Ab _)).mono ?_;rintro en w3 ⟨x,rfl,hx,Ak⟩;obtain⟨a5,n5,c5,a6,n6,c6,rfl,_,hz⟩:=hx.parts;exact Hb _ _ w3 ⟨hF.trans (Ak.mono hF.size),fun b hb=>⟨Nat.le_trans hF.size hb.1,hb.2⟩,a5,n5,c5,a6,n6,c6,rfl,hz _ (Ab _)⟩ (fun b hb=>.inr hb) Ak
 case h =>
  rintro v1 v2 Fp k w3 ⟨dO,O9,a5,n5,c5,a6,n6,c6,rfl,hz⟩ Oz _ hq Kd Oi;obtain⟨dn,D0⟩:∃ z,decide (Ho (m*((1:Nat):Int)+kk*(n:Nat)) (n*1)<0)=z:=⟨_,rfl⟩;rw[D0];have Uq:=Aa D0;have HZ:=Aa hz;have Yp:=Aa hq;have qfc:W1.heap.size<=k:=Kd
  have Bd:∀ u∈(#[.bool dn,.slice a5 n5 c5,.bool false,.slice a6 n6 c6]:Array Value),u.oneCell'=true:=by simp[Value.oneCell']
  have Df:=Aa Bd;clear hz hq D0 Bd Oi;go_simp
  refine Ap (i:=9) rfl ?_;refine eH 39 39 (.tmp 6) (.tmp 29) rfl #[.bool dn,.slice a5 n5 c5,.bool false,.slice a6 n6 c6] _ k Yp.out qpa rfl Df.out rfl rfl ?_;intro w4 t1 t2 t3 t4
  have Uc:Below W1.heap.size W1 w4:=dO.trans (t2 _ qfc);refine⟨fun _=>Uc,?_⟩;refine Dx (i:=10) (v:=.int .i64 0) (some 7) rfl rfl (.inl ⟨by kernel_rfl,fun W' hS=>by go_simp<;>rfl⟩) Uc ?_;refine Eo (by kernel_rfl) ?_ _;have bO:=HZ.out.move (G7 t3 (fun b hb=>(O9 b hb).2) fun b hb=>by cases hb;exact Oz)
  have aN:Hid (∀ b,Fp b->W1.heap.size<=b/\b<w4.heap.size):=Aa fun b hb=>⟨(O9 b hb).1,Nat.lt_of_lt_of_le (O9 b hb).2 t3.size⟩
  have Vi:=Aa t1;have qj8:=Aa bO;have Ei:=Aa Uc;have X4:=Bc.out.below Uc lq1;have Qg:=Bw.out.below Uc (by have := S1.out;omega);have d0:=X4.at (i:=0) (x:=.int .u8 kd) rfl;obtain⟨e0,e1,e2,e3⟩:=t1.four;have t6:=Aa Qg
  have sX:∀ u∈(⟨kd,dn,.slice a5 n5 c5,false,.slice a6 n6 c6,0⟩:Vv).cells,u.oneCell'=true:=by simp[Value.oneCell']
  have qjt:=Aa sX;clear t1 t2 t3 t4 bO HZ Yp dO Uc O9 Oz X4 Qg sX;go_simp
  go_upto_region 6 with fail
  go_wp2_with (refine Gu rfl 41 41 (.tmp 4) (.tmp 37) rfl (⟨kd,dn,.slice a5 n5 c5,false,.slice a6 n6 c6,0⟩:Vv).cells _ (B+1) t6.out Kn rfl qjt.out rfl rfl ?_;intro W2 t1 t2 t3 t4)
  refine bodyPost_ret (v:=.tuple #[(⟨kd,dn,.slice a5 n5 c5,false,.slice a6 n6 c6,0⟩:Vv).agg,.bool true]) ?_ rfl ?_
  ·obtain⟨e0,e1,e2,e3,e4,e5⟩:=t1.six
   simp[results,Tryz.results48,go_sem,e0,e1,e2,e3,e4,e5]
  have Gj:Zed Fp w4 (fun K W=>VlX K W r ⟨kd,dn,.slice a5 n5 c5,false,.slice a6 n6 c6,0⟩):=qj8.out.imp fun K W hl=>by
   rw[HR.out,<- Uq.out];exact qzc hl
  exact⟨_,rfl,(Gj.move (G7 t3 (fun b hb=>(aN.out b hb).2) fun b hb h=>by cases hb;have := (aN.out _ h).1;have := S1.out;omega)).mono fun b hb=>⟨by have := (aN.out b hb).1;have := S1.out;omega,Nat.lt_of_lt_of_le (aN.out b hb).2 t3.size⟩,Bi.out.trans ((Ei.out.mono (by have := S1.out;omega)).trans (t2 B (by omega)))⟩
theorem zs9 (v:Vq) (hk:v.kd=2\/v.kd=3) (ho:v.ok=true) (hg:v.good=true):jO v 1 (Qw v 1):=zbz 1 qxm (by decide) v hk ho hg
theorem zj0 (v:Vq) (hk:v.kd=2\/v.kd=3) (ho:v.ok=true) (hg:v.good=true):jO v (-1) (Qw v (-1)):=zbz (-1) zdv (by decide) v hk ho hg
theorem zeq (v v':Vq) (hk:v.kd=2\/v.kd=3) (ho:v.ok=true) (hg:v.good=true) (Ji:v'.kd=2\/v'.kd=3) (G6:v'.ok=true) (E5:v'.good=true) (hm:v.lim 40) (qvf:v'.lim 40):qhh v v' (Wn v v'):=by
 intro x y w h h'
 obtain⟨Ai,hi,Hq,Jy,Qj⟩:=h.qv hk ho hg;obtain⟨C7,Fj,nB,iL,iR⟩:=h'.qv Ji G6 E5;have Fo:v.dig:=⟨h.n.2,h.d.2⟩;have za8:v'.dig:=⟨h'.n.2,h'.d.2⟩;obtain⟨L1,L2⟩:=hm.lb Fo;obtain⟨L3,L4⟩:=qvf.lb za8;have Wh:=h.kd;obtain⟨m,Wo⟩:=Ae (sgz v.g1 (As v.l1));obtain⟨n,At⟩:=Ae (As v.l2);obtain⟨p,Nk⟩:∃ m,sgz v'.g1 (As v'.l1)=m:=⟨_,rfl⟩;obtain⟨q,Ya⟩:∃ n,As v'.l2=n:=⟨_,rfl⟩
 have To:m.natAbs<LB 40:=by rw[<- Wo,Ww];exact L1
 have Et:n<LB 40:=by rw[<- At];exact L2
 have En:p.natAbs<LB 40:=by rw[<- Nk,Ww];exact L3
 have Nr:q<LB 40:=by rw[<- Ya];exact L4
 obtain⟨P,hP⟩:=Ae (Ho (m*(q:Nat)+p*(n:Nat)) (n*q));obtain⟨Q,hQ⟩:=Ae (Ic (m*(q:Nat)+p*(n:Nat)) (n*q))
 have qm8:kQ v v'=P:=by unfold kQ;rw[Wo,At,Nk,Ya,hP]
 have qrt:mI v v'=Q:=by unfold mI;rw[Wo,At,Nk,Ya,hQ]
 rw[Wo,At]at Hq;rw[Nk,Ya]at nB;have Gp:0<n*q:=Nat.mul_pos Hq.q0 nB.q0
 have L8:P.natAbs<LB 100:=by
  rw[<- hP];refine Bl (Nat.lt_of_le_of_lt (lS _ Gp) ?_) (show 81<=100 by decide);refine Nat.lt_of_le_of_lt (Int.natAbs_add_le _ _) ?_;rw[Int.natAbs_mul,Int.natAbs_mul,Int.natAbs_natCast,Int.natAbs_natCast];exact sG (a:=80) (Ts To Nr) (Ts En Et)
 have qlh:Q<LB 100:=by rw[<- hQ];exact Bl (Nat.lt_of_le_of_lt (nL _ _) (Ts Et Nr)) (by decide)
 obtain⟨r,hr⟩:=Ae (Wn v v');have HR:Hid (r=Td v.kd (Ho (P*((1:Nat):Int)) (Q*(2:Int).natAbs)) (Ic (P*((1:Nat):Int)) (Q*(2:Int).natAbs))):=Aa (by rw[<- hr];unfold Wn;rw[qm8,qrt]);rw[hr];obtain⟨a1,c1,Cp,_⟩:=h.n.form;obtain⟨a2,c2,Az,_⟩:=h.d.form;obtain⟨a3,c3,Ep,_⟩:=h'.n.form;obtain⟨a4,c4,Fi,_⟩:=h'.d.form;obtain⟨n1,Es⟩:∃ z,v.l1.length=z:=⟨_,rfl⟩;obtain⟨n2,Dp⟩:∃ z,v.l2.length=z:=⟨_,rfl⟩;obtain⟨n3,Zc⟩:∃ z,v'.l1.length=z:=⟨_,rfl⟩;obtain⟨n4,gH⟩:∃ z,v'.l2.length=z:=⟨_,rfl⟩;rw[Es]at Cp;rw[Dp]at Az;rw[Zc]at Ep;rw[gH]at Fi;obtain⟨kd,f1,s1,f2,s2,i⟩:=x;obtain⟨kd',f1',s1',f2',s2',i'⟩:=y;dsimp only at Ai hi Hq Cp Az Wh C7 Fj nB Ep Fi;subst Ai hi Cp Az C7 Fj Ep Fi;obtain⟨kv,tE⟩:∃ z,v.kd=z:=⟨_,rfl⟩;rw[tE]at hk HR Wh;subst Wh;obtain⟨W1,Ah⟩:=Ae (((w.alloc (.cells (⟨kd,f1,.slice a1 n1 c1,false,.slice a2 n2 c2,0⟩:Vv).cells 41)).alloc (.cells (⟨kd',f1',.slice a3 n3 c3,false,.slice a4 n4 c4,0⟩:Vv).cells 41)).alloc (.cells vv0.cells 41));obtain⟨b1,q1,q2,q3,s1⟩:=N4 w _ _ _ _ _ _ Ah;obtain⟨B,hB⟩:=Ae w.heap.size;have HB:=Aa hB;have HW:=Aa Ah;rw[hB]at b1 q1 q2 q3 s1 ⊢;dsimp only[Vv.cells,vv0]at HW;rw[hB]at Hq nB;have Vu:=qyx W1.heap.size _ _ _ _ _ _ m p n q W1 (Hq.below b1 (Ab _) (show B<=W1.heap.size by omega)) (nB.below b1 (Ab _) (show B<=W1.heap.size by omega)) (Bl To (by decide)) (Bl Et (by decide)) (Bl En (by decide)) (Bl Nr (by decide)) (Ab _);rw[hP,hQ]at Vu;have Y4:=Aa Vu;have Ja:=Aa L8;have Lg:=Aa qlh;obtain⟨c0,c1',c2',c3',c4',c5'⟩:=q1.six;obtain⟨g0,g1,g2,g3,g4,g5⟩:=q2.six;have Bc:=Aa q1;have Hz:=Aa q3;have Bi:=Aa b1;have S1:=Aa s1;clear h h' ho G6 hg E5 hr hm qvf Wo At Nk Ya Es Dp Zc gH tE Jy Qj iL iR To Et En Nr Hq nB hB Ah q1 q2 q3 b1 s1 hP hQ qm8 qrt Gp L8 qlh Vu Fo za8 L1 L2 L3 L4 Ji;go_enter Tryz.func49,Tryz.ntmps49
 go_upto_region 1 with fail
 simp only[HB.out,Nat.add_assoc,Nat.reduceAdd];rw[HW.out]
 go_cut [15]from 8 to 15 (fun s wx=>s=.bool false/\W1=wx)
 case first =>
  rcases hk with rfl | rfl
  all_goals
   go_wp2_with fail
   all_goals go_meet
   all_goals exact⟨rfl,rfl⟩
 case rest =>
 obtain⟨rfl,rfl⟩:=hcut
 go_upto_region 3 with fail
 go_wp2_with fail
 refine Y4.out.mono ?_;rintro e w2 ⟨x,rfl,hx,Ai⟩;obtain⟨a5,n5,c5,a6,n6,c6,rfl,qkf,_⟩:=hx.parts;clear c0 c1' c2' c3' c4' c5' g0 g1 g2 g3 g4 g5 hx Y4;obtain⟨dP,zci⟩:∃ z,decide (P<0)=z:=⟨_,rfl⟩;rw[zci]at qkf ⊢;clear zci;have Jq:=Aa qkf;have Bz:=Aa Ai;have Az:=Ai.size;clear qkf Ai
 go_upto_region 6 with fail
 obtain⟨W3,Cn⟩:∃ W,w2.alloc (.cells #[.bool dP,.slice a5 n5 c5,.bool false,.slice a6 n6 c6] 39)=W:=⟨_,rfl⟩;obtain⟨T,hT⟩:=Ae w2.heap.size
 have b3:Below T w2 W3:=by rw[<- Cn,<- hT];exact Af _ _
 have q3:Blk W3 T #[.bool dP,.slice a5 n5 c5,.bool false,.slice a6 n6 c6] 39:=by rw[<- Cn,<- hT];exact Blk.new w2 _ _
 have s3:W3.heap.size=T+1:=by rw[<- Cn,<- hT];simp
 rw[Cn];rw[hT]at Jq Az ⊢;have zwj:=Aa (Jq.out.below b3 (Ab _) (show T<=W3.heap.size by omega));have Zb:=Aa q3;have cT:Hid (Below W1.heap.size W1 W3):=Aa (Bz.out.trans (b3.mono (by omega)));have S3:=Aa s3;clear Cn hT b3 q3 s3 Jq
 have lT:T<W3.heap.size:=by have := S3.out;omega
 refine Fz (fun W'=>Below W3.heap.size W3 W') [5,6,7] (by kernel_rfl) ?_;have qS:(fun W'=>Below W3.heap.size W3 W') W3.drew:=Er (Below.refl _ _);refine Nu [5,6,7,3,2] (i:=0) (v:=.agg #[.bool dP,.slice a5 n5 c5,.bool false,.slice a6 n6 c6]) rfl (by kernel_rfl) (by kernel_rfl) (by kernel_rfl) (by kernel_rfl) (by kernel_rfl) (by kernel_rfl) (fun _ _ _ h=>h) (.inl ⟨by kernel_rfl,fun W' hS=>by have d0:=(Zb.out.below hS lT).at (i:=0) rfl;have d1:=(Zb.out.below hS lT).at (i:=1) rfl;have d2:=(Zb.out.below hS lT).at (i:=2) rfl;have d3:=(Zb.out.below hS lT).at (i:=3) rfl;go_simp⟩) qS ?_;refine Ap (i:=1) rfl ?_;go_simp
 refine(qrc 2 _ zs6 (Bl (show(2:Int).natAbs<LB 1 by decide) (by decide))).mono ?_;rintro e w4 ⟨x,rfl,hx,Al⟩;have qS4:Below W3.heap.size W3 w4:=qS.trans (Al.mono qS.size);obtain⟨a7,n7,c7,a8,n8,c8,rfl,eJ,_⟩:=hx.parts;rw[show decide ((2:Int)<0)=false from rfl]at eJ ⊢;have qf3:=Aa eJ;clear hx eJ;go_simp
 refine Ap (i:=2) rfl ?_;go_simp
 refine(zp1 w4.heap.size _ _ _ _ _ _ P 2 Q 1 w4 (zwj.out.below qS4 (Ab _) qS4.size) qf3.out (by decide) Ja.out Lg.out (Bl (show(2:Int).natAbs<LB 1 by decide) (by decide)) (Bl (show(1:Nat)<LB 1 by decide) (by decide)) (Ab _)).mono ?_;rintro e w5 ⟨x,rfl,hx,Aq⟩;have qS5:Below W3.heap.size W3 w5:=qS4.trans (Aq.mono qS4.size);obtain⟨a9,n9,c9,a10,n10,c10,rfl,_,hz⟩:=hx.parts;obtain⟨dn,D0⟩:∃ z,decide (Ho (P*((1:Nat):Int)) (Q*(2:Int).natAbs)<0)=z:=⟨_,rfl⟩;rw[D0];have Uq:=Aa D0;have HZ:=Aa (hz _ (Ab _))
 have Bd:∀ u∈(#[.bool dn,.slice a9 n9 c9,.bool false,.slice a10 n10 c10]:Array Value),u.oneCell'=true:=by simp[Value.oneCell']
 have Df:=Aa Bd;have qng:=Zb.out.below qS5 lT;have zhg:=Aa qng;have qw4:=Aq.size;have zeu:=qS4.size;clear hx hz D0 Bd qng;go_simp
 refine Aw (i:=3) (v:=.tuple #[.agg #[.bool dn,.slice a9 n9 c9,.bool false,.slice a10 n10 c10],.int .i64 0]) (some 36) rfl rfl qS5 ?_;refine zeo (i:=5) (v:=.int .i64 0) (some 41) rfl rfl (by kernel_rfl) (by kernel_rfl) (by kernel_rfl) (by kernel_rfl) (fun _ _ _ h=>h) (.inl ⟨by kernel_rfl,fun W' hS=>by go_simp⟩) ?_;refine Ap (i:=4) rfl ?_;go_simp
 refine Ap (i:=6) rfl ?_;refine eH 39 39 (.tmp 6) (.tmp 40) rfl #[.bool dn,.slice a9 n9 c9,.bool false,.slice a10 n10 c10] _ T zhg.out qpa rfl Df.out rfl rfl ?_;intro w6 t1 t2 t3 t4
 have b13:=cT.out.size;have Ns:Below W1.heap.size W1 w6:=cT.out.trans ((qS5.mono b13).trans (t2 _ (by have := S3.out;omega)));refine⟨fun e=>absurd e (by decide),?_⟩;refine Ap (i:=7) rfl ?_;go_simp
 refine Eo (by kernel_rfl) ?_ _;have Zm:=HZ.out.move (G7 t3 (fun b hb=>hb.2) fun b hb h=>by cases hb;have := h.1;have := S3.out;omega);have jG:=Aa Zm;have zxn:=t3.size;have X4:=Bc.out.below Ns (by have := S1.out;omega);have Ga:=Hz.out.below Ns (by have := S1.out;omega);have d0:=X4.at (i:=0) (x:=.int .u8 kd) rfl;obtain⟨e0,e1,e2,e3⟩:=t1.four;have aQ:=Aa Ga;have B5:=Aa Ns
 have sX:∀ u∈(⟨kd,dn,.slice a9 n9 c9,false,.slice a10 n10 c10,0⟩:Vv).cells,u.oneCell'=true:=by simp[Value.oneCell']
 have qjt:=Aa sX;clear t1 t2 t3 t4 Zm HZ X4 Ga Ns sX
 go_upto_region 9 with fail
 go_wp2_with (refine Gu rfl 41 41 (.tmp 4) (.tmp 48) rfl (⟨kd,dn,.slice a9 n9 c9,false,.slice a10 n10 c10,0⟩:Vv).cells _ (B+2) aQ.out Kn rfl qjt.out rfl rfl ?_;intro W7 t1 t2 t3 t4)
 refine bodyPost_ret (v:=.tuple #[(⟨kd,dn,.slice a9 n9 c9,false,.slice a10 n10 c10,0⟩:Vv).agg,.bool true]) ?_ rfl ?_
 ·obtain⟨e0,e1,e2,e3,e4,e5⟩:=t1.six
  simp[results,Tryz.results49,go_sem,e0,e1,e2,e3,e4,e5]
 have Gj:Zed (Btw w4.heap.size w5.heap.size) w6 (fun K W=>VlX K W r ⟨kd,dn,.slice a9 n9 c9,false,.slice a10 n10 c10,0⟩):=jG.out.imp fun K W hl=>by
  rw[HR.out,<- Uq.out];exact qzc hl
 have Dn:=S1.out;have jV:=S3.out;exact⟨_,rfl,(Gj.move (G7 t3 (fun b hb=>by have := hb.2;omega) fun b hb h=>by cases hb;have := h.1;omega)).mono fun b hb=>⟨by have := hb.1;omega,by have := hb.2;have := t3.size;omega⟩,Bi.out.trans ((B5.out.mono (by omega)).trans (t2 B (by omega)))⟩
theorem zli (K:Nat) (s:Sc) (y:Sv) (c:Nat) (w:World) (hs:ScX K w s y) (hK:K<=w.heap.size) (Jt:∀ v∈s.cuts,v.good=true) (Dr:s.cuts.length<=2^38) (Ay:s.okB=true) (e0:s.kd=0) (hp:s.poss c=true) :
  Calls Tryz.prog 25 #[y.agg,.int .i64 c] w fun e w'=>∃ z:Vv,e=.returned (.tuple #[z.agg,.bool true])/\Zed (Btw w.heap.size w'.heap.size) w' (fun K W=>VlX K W (Pd 1 c) z)/\Below w.heap.size w w':=by
 obtain⟨W1,Ah⟩:=Ae ((w.alloc (.cells y.cells 46)).alloc (.cells vv0.cells 41))
 have b1:Below w.heap.size w W1:=by rw[<- Ah];exact(Af _ _).alloc (by simp) _
 have q1:Blk W1 w.heap.size y.cells 46:=by rw[<- Ah];exact(Blk.new w _ _).alloc _
 have q2:Blk W1 (w.heap.size+1) vv0.cells 41:=by
  rw[<- Ah];have := Blk.new (w.alloc (.cells y.cells 46)) vv0.cells 41;rwa[World.size_alloc]at this
 have s1:W1.heap.size=w.heap.size+2:=by rw[<- Ah];simp
 obtain⟨B,hB⟩:=Ae w.heap.size;have HB:=Aa hB;have HW:=Aa Ah;rw[hB]at hK b1 q1 q2 s1 ⊢;dsimp only[Vv.cells,vv0]at HW;have hv:=gA B s y W1 (hs.below b1 hK hK) (by omega) Jt Dr;rw[Ay]at hv
 have Ye:∀ W,Below W1.heap.size W1 W->s.okB=true->Calls Tryz.prog 23 #[.pointer (some ⟨B,0,none⟩),.int .i64 (c:Int)] W fun e w'=>e=.returned (.bool (s.poss (c:Int)))/\Below W.heap.size W w':=fun W hb Ay=>by
  have h3:=hb.size;have h2:=(q1.below hb q1.lt);exact yG B B 0 y.c.val s (c:Int) W ((hs.cuts.below b1 hK hK).below hb (by omega) (Ab _)) (by omega) (by omega) (by rw[Nat.zero_add,<- hs.kd];exact h2.at rfl) (by rw[Nat.zero_add];exact h2.at rfl) Dr (iY Ay)
 have Yc:=Aa Ye;have C8:=hs.cuts.below b1 hK hK;have Br:=hs.kd;obtain⟨⟨yop,ynm,yk,yb3,⟨y4,y4n,y4m⟩,yb5,⟨y6,y6n,y6m⟩,yi7,⟨y8,y8n,y8m⟩⟩,sk,⟨ca,cn,cm⟩⟩:=y;dsimp only at Br;have Bc:=Aa q1;have Bw:=Aa q2;obtain⟨d0,d1,d2,d3,d4,d5,d6,d7,d8,d9,d10⟩:=Bc.out.eleven;rw[e0]at Br;subst Br
 have qk5:=fun W hb=>Yc.out W hb Ay
 rw[hp]at qk5;have zqr:=Aa qk5
 have Bd:∀ u∈(Me 1 c).cells,u.oneCell'=true:=by simp[Value.oneCell']
 have Df:=Aa Bd;clear hB Ah hs Jt Ay hp Ye C8 q1 q2 qk5 Yc Bd e0;go_enter Tryz.func25,Tryz.ntmps25
 go_upto_region 1 with fail
 simp only[HB.out];rw[HW.out];go_wp2_with fail
 refine hv.mono ?_;rintro e w2 ⟨rfl,Ai⟩;clear hv d0 d1 d2 d3 d4 d5 d6 d7 d8 d9 d10;go_wp2_with fail
 refine(zqr.out w2 Ai).mono ?_;rintro e w3 ⟨rfl,Ak⟩;have b3':Below W1.heap.size W1 w3:=Ai.trans (Ak.mono Ai.size);have b3:Below B w w3:=b1.trans (b3'.mono (by omega));have Ep:=b3'.size;clear Ai Ak;have d9:=(Bc.out.below b3' (by omega)).at (i:=9) (x:=.int .u8 0) rfl;have Io:=Aa (Bw.out.below b3' (by omega));go_wp2_with (refine Gu rfl 41 41 (.tmp 4) (.tmp 20) rfl (Me 1 c).cells _ (B+1) Io.out Kn rfl Df.out rfl rfl ?_;intro W2 t1 t2 t3 t4)
 refine bodyPost_ret (v:=.tuple #[(Me 1 c).agg,.bool true]) ?_ rfl ?_
 ·obtain⟨e0,e1,e2,e3,e4,e5⟩:=t1.six
  simp[results,Tryz.results25,go_sem,e0,e1,e2,e3,e4,e5]
 exact⟨_,rfl,fun W K _ _=>rR _ _ _ _,b3.trans (t2 B (by omega))⟩
theorem qpc {v:Vq} {k:Int} (hk:Ky v.kd=true) (ho:v.ok=true) (Kd : -2<=k/\k<=2):jO v k (Pd v.kd (v.i+k)):=by
 intro x W h
 obtain⟨a1,c1,e1,_⟩:=h.n.form;obtain⟨a2,c2,e2,_⟩:=h.d.form;have hb:=qcd ho hk;have h1:=h.kd;have h2:=h.i;obtain⟨kd,f1,s1,f2,s2,i⟩:=x;dsimp only at e1 e2 h1 h2;subst e1 e2 h2;rw[<- h1]at hk ⊢;refine(zu9 kd v.i k f1 f2 a1 a2 _ c1 _ c2 W hk hb Kd).mono ?_;rintro e w' ⟨rfl,hb⟩;exact⟨_,rfl,fun W K _ _=>rR _ _ _ _,hb⟩
theorem zol {a b:Vq} (hk:Ky a.kd=true) (Ji:b.kd=a.kd) (ho:a.ok=true) (G6:b.ok=true):qhh a b (Pd a.kd ((a.i+b.i)/2)):=by
 intro x y W h h'
 obtain⟨a1,c1,e1,_⟩:=h.n.form;obtain⟨a2,c2,e2,_⟩:=h.d.form;obtain⟨a3,c3,e3,_⟩:=h'.n.form;obtain⟨a4,c4,e4,_⟩:=h'.d.form;have hb:=qcd ho hk;have Gl:=qcd G6 (by rw[Ji];exact hk);have h1:=h.kd;have h2:=h.i;have Qo:=h'.i;obtain⟨kd,f1,s1,f2,s2,i⟩:=x;obtain⟨kd',f1',s1',f2',s2',i'⟩:=y;dsimp only at e1 e2 e3 e4 h1 h2 Qo;subst e1 e2 e3 e4 h2 Qo;rw[<- h1]at hk ⊢;refine(zvh kd a.i b.i f1 f2 f1' f2' a1 a2 a3 a4 _ c1 _ c2 _ c3 _ c4 W hk hb Gl kd').mono ?_;rintro e w' ⟨rfl,hb⟩;exact⟨_,rfl,fun W K _ _=>rR _ _ _ _,hb⟩
theorem zdm (K:Nat) (s:Sc) (y:Sv) (c:Nat) (w:World) (hs:ScX K w s y) (hK:K<=w.heap.size) (m:Nat) (hc:j4 s m) (hm:m<=40) (hp:s.poss c=true) :
  Calls Tryz.prog 25 #[y.agg,.int .i64 c] w fun e w'=>∃ z:Vv,e=.returned (.tuple #[z.agg,.bool true])/\Zed (Btw w.heap.size w'.heap.size) w' (fun K W=>VlX K W (Jg s c) z)/\Below w.heap.size w w':=by
 have rD:=oB hc.ok
 by_cases h0:s.kd=0
 ·have hv:Jg s c=Pd 1 c:=by unfold Jg;rw[if_pos h0]
  rw[hv];exact zli K s y c w hs hK hc.good (by omega) hc.ok h0 hp
 ·have e0:(s.kd==0)=false:=by simpa using h0
  by_cases Xa:c%2=1
  ·have hv:Jg s c=s.cuts[c/2]?.getD v0:=by
    unfold Jg tU;rw[if_neg h0,if_pos Xa]
    split<;>rfl
   rw[hv];exact qwa K s y c w hs hK hc.good hc.ok e0 hp Xa
  ·have ho:=rN hc.ok hc.good
   have Es:=qpu hc.ok e0
   by_cases hd:Ky s.kd=true
   ·have hv:Jg s c=Pd s.kd (Ra s c):=by unfold Jg tU;rw[if_neg h0,if_pos hd,if_neg Xa]
    rw[hv];refine zck K s y c _ w hs hK hc.good hc.ok e0 hp (by omega) (fun e=>?_) (fun e1 e2=>?_) (fun e1 e2=>?_)
    ·obtain⟨_,k2,k3⟩:=ho.at (show 0<s.cuts.length by omega)
     have := qpc (k:=-1) (by rw[k3];exact hd) k2 (by omega);rw[k3]at this
     have hI:Ra s c=(s.cuts[0]?.getD v0).i+(-1):=by unfold Ra;rw[if_pos e]
     rw[hI];exact this
    ·obtain⟨_,k2,k3⟩:=ho.at (show c/2-1<s.cuts.length by omega)
     have := qpc (k:=1) (by rw[k3];exact hd) k2 (by omega);rw[k3]at this
     have hI:Ra s c=(s.cuts[c/2-1]?.getD v0).i+1:=by unfold Ra;rw[if_neg (by omega),if_pos e2,e2]
     rw[hI];exact this
    ·obtain⟨_,k2,k3⟩:=ho.at (show c/2-1<s.cuts.length by omega)
     obtain⟨_,j2,j3⟩:=ho.at (show c/2<s.cuts.length by omega);have := zol (by rw[k3];exact hd) (by rw[j3,k3]) k2 j2;rw[k3]at this
     have hI:Ra s c=((s.cuts[c/2-1]?.getD v0).i+(s.cuts[c/2]?.getD v0).i)/2:=by unfold Ra;rw[if_neg (by omega),if_neg (by omega)]
     rw[hI];exact this
   ·have Br:s.kd=2\/s.kd=3:=by
     have h1:=hc.ok;unfold Sc.okB at h1;rw[if_neg h0]at h1;simp only[Bool.and_eq_true,decide_eq_true_eq]at h1
     have h2:¬ (s.kd=4\/s.kd=5\/s.kd=6):=fun e=>hd (by unfold Ky;simpa [or_assoc] using e)
     omega
    have oF:∀ j,j<s.cuts.length->(s.cuts[j]?.getD v0).lim 40:=fun j hj=>by
     have := hc.lim (s.cuts[j]?.getD v0) (by rw[Ac hj];exact List.getElem_mem hj);exact⟨by have := this.1;omega,by have := this.2;omega⟩
    refine zck K s y c _ w hs hK hc.good hc.ok e0 hp (by omega) (fun e=>?_) (fun e1 e2=>?_) (fun e1 e2=>?_)
    ·obtain⟨k1,k2,k3⟩:=ho.at (show 0<s.cuts.length by omega)
     have hv:Jg s c=Qw (s.cuts[0]?.getD v0) (-1):=by unfold Jg;rw[if_neg h0,if_neg hd,if_neg Xa,if_pos e]
     rw[hv];exact zj0 _ (by rw[k3];exact Br) k2 k1
    ·obtain⟨k1,k2,k3⟩:=ho.at (show c/2-1<s.cuts.length by omega)
     have hv:Jg s c=Qw (s.cuts[c/2-1]?.getD v0) 1:=by unfold Jg;rw[if_neg h0,if_neg hd,if_neg Xa,if_neg (by omega),if_pos e2,e2]
     rw[hv];exact zs9 _ (by rw[k3];exact Br) k2 k1
    ·obtain⟨k1,k2,k3⟩:=ho.at (show c/2-1<s.cuts.length by omega)
     obtain⟨j1,j2,j3⟩:=ho.at (show c/2<s.cuts.length by omega)
     have hv:Jg s c=Wn (s.cuts[c/2-1]?.getD v0) (s.cuts[c/2]?.getD v0):=by unfold Jg;rw[if_neg h0,if_neg hd,if_neg Xa,if_neg (by omega),if_neg (by omega)]
     rw[hv];exact zeq _ _ (by rw[k3];exact Br) k2 k1 (by rw[j3];exact Br) j2 j1 (oF _ (by omega)) (oF _ (by omega))
def qzo:Prop:=∀ (K:Nat) (w:World),K<=w.heap.size->Pe K w->Calls Tryz.prog 5 #[] w fun e w'=>e=.returned (.bool true)/\Below w.heap.size w w'
end Go.Proofs.YtlldjmagbjjeoaaGreatDoor
