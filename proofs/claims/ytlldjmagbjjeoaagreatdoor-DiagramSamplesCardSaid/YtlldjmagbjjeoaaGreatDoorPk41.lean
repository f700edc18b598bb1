/- Contracts and plain laws, several texts in one (DSmp, DlAwP). No conditions beyond those stated. -/
import Derived.Test.YtlldjmagbjjeoaaGreatDoorPk40
set_option maxRecDepth 100000
set_option maxHeartbeats 40000000
namespace Go.Proofs.YtlldjmagbjjeoaaGreatDoor
open Go.RowKit
set_option linter.unusedVariables false
theorem RO.low {α:Type} {c T:Nat} {row:α->Value->List Value} {R:α->Value->Nat->World->Prop} {base base':Nat} {w:World} {v:Value} {L:List α} {vs:List Value} {F:Nat->Prop} (h:RO c T row R base w v L vs F) (hb:base'<=base):RO c T row R base' w v L vs F :=
 ⟨h.len,h.own.mono hb,fun b hF=>⟨Nat.le_trans hb (h.rng b hF).1,(h.rng b hF).2⟩,h.nv,h.dat⟩
abbrev VO:=@RO Vq 6 41 (fun _ u=>u.cells.toList) (fun v u K W=>∃ z:Vv,u=z.agg/\VlX K W v z)
theorem qzj (z:Vv):z.agg.cells.toList=z.cells.toList:=rfl
theorem qqx (K:Nat) (x:Dv) (scs:List Sc) (st:DSt) (root:Int) (cv:Value) (cs:List Nat) (vals:Nat->Vq) (w:World) (h:DgX K w x scs st root) (hv:DgV scs st root) (hg:K8 scs) (hc:Ee K w cv cs) (De:Cu (pcs scs) cs) (hK:K<=w.heap.size)
  (Hm:∀ (i:Nat) (s:Sc) (c:Nat) (y:Sv) (W:World),scs[i]?=some s->cs[i]?=some c->ScX W.heap.size W s y->Calls Tryz.prog 25 #[y.agg,.int .i64 c] W fun e w'=>∃ z:Vv,e=.returned (.tuple #[z.agg,.bool true])/\Zed (Btw W.heap.size w'.heap.size) w' (fun K W=>VlX K W (vals i) z)/\Below W.heap.size W w') :
  Calls Tryz.prog 8 #[x.agg,cv] w fun e w'=>∃ v us F,e=.returned (.tuple #[v,.int .i64 0])/\VO w.heap.size w' v ((List.range scs.length).map vals) us F/\Below w.heap.size w w':=by
 obtain⟨l1,l2,l3⟩:=h.lens;obtain⟨n,hn⟩:=Ae scs.length;have eE:=hv.len
 have Ba:cs.length=n:=by rw[De.1];unfold pcs;rw[List.length_map];exact hn
 obtain⟨ca,cm,rfl,qfx,qlg⟩:=hc.form
 have J4:∀ W,Below w.heap.size w W->Calls Tryz.prog 24 #[x.agg,.slice ca cs.length cm] W fun e w'=>e=.returned (.bool true)/\Below W.heap.size W w':=fun W hb=>zpl W.heap.size x scs st root _ cs W (h.below hb hK (by have := hb.size;omega)) hv hg (hc.below hb hK (by have := hb.size;omega)) De (Ab _)
 obtain⟨⟨sa,sn,sm⟩,⟨na,nn,nm⟩,⟨la,ln,lm⟩,rt⟩:=x;simp only at l1;have hs:=h.s;dsimp only at hs;subst l1;clear l2 l3;obtain⟨_,_,Cp,Az,Ep⟩:=hs.form;simp only[Value.slice.injEq,Sl.val,true_and]at Cp;obtain⟨rfl,rfl⟩:=Cp;obtain⟨W1,Ah⟩:=Ae (w.alloc (.cells #[.slice sa scs.length sm,.slice na nn nm,.slice la ln lm,.int .i64 rt] 31))
 have b1:Below w.heap.size w W1:=by rw[<- Ah];exact Af _ _
 have q1:Blk W1 w.heap.size #[.slice sa scs.length sm,.slice na nn nm,.slice la ln lm,.int .i64 rt] 31:=by rw[<- Ah];exact Blk.new w _ _
 have s1:W1.heap.size=w.heap.size+1:=by rw[<- Ah];simp
 have qcf:=J4 W1 b1;obtain⟨T,hT⟩:=Ae w.heap.size;have HT:=Aa hT;have HW:=Aa Ah;rw[hT]at b1 q1 s1 hK ⊢;rw[hn]at q1 qcf hs Az HW eE ⊢;rw[Ba]at qfx qcf ⊢;rw[Ba]at hc;have HS:=Aa hs;have HC:=Aa hc;have dG:=Aa De;have HN:=Aa hn;have Hl:=Aa Ba;have v7:=Aa Hm;have Bi:=Aa b1;have Bc:=Aa q1;have S1:=Aa s1;have aG:=Aa qcf;unfold maxLen at qlg Ep
 have Vh:T<W1.heap.size:=by omega
 obtain⟨c0,c1,c2,c3⟩:=q1.four;dsimp only[Dv.agg,Dv.cells,Sl.val]at aG ⊢;clear h hs hc De hn Ba hg hv b1 q1 s1 J4 qcf hT Ah Hm;go_enter Tryz.func8,Tryz.ntmps8
 go_upto_region 1 with fail
 simp only[HT.out];rw[HW.out];go_wp2_with fail
 refine aG.out.mono ?_;clear aG c0 c1 c2 c3;rintro en w2 ⟨rfl,Ai⟩;have d0:w2.cell? ⟨T,0,none⟩=some (.slice sa n sm):=(Bc.out.below Ai Vh).at rfl;have Bz:=Aa Ai;have zq2:=Ai.size;clear Ai;go_wp2_with fail
 go_loopw [6,18] (fun ov iv wr=>∃ (i:Nat) (us:List Value) (F:Nat->Prop),i<=n/\iv=.int .i64 i/\VO w2.heap.size wr ov ((List.range i).map vals) us F/\Below w2.heap.size w2 wr) (fun _ iv _=>n-(intOf iv).toNat)
 case atStart=>exact⟨0,[],fun _=>False,Nat.zero_le _,rfl,RO.nil _ _,Below.refl _ _⟩
 case round =>
  obtain⟨i,us,F,hi,rfl,Eg,Bb⟩:=hrel;obtain⟨wo,rfl⟩:∃ wo:World,wo=wr:=⟨_,rfl⟩;obtain⟨oa,oc,Is,_,_⟩:=Eg.own.form
  have Cc:(List.zipWith (fun(_:Vq) (u:Value)=>u.cells.toList) ((List.range i).map vals) us).length=i:=by
   rw[List.length_zipWith,Eg.len,Nat.min_self,List.length_map,List.length_range]
  rw[Cc]at Is;subst Is;have aU:=Aa Cc;have Lk:=Aa Eg;have Ej:=Aa Bb;have Jl:=Bb.size;have bTo:Below T w wo:=(Bi.out.trans (Bz.out.mono (by omega))).trans (Bb.mono (by omega));clear Eg Cc
  by_cases Aj:i<n
  ·obtain⟨gy,Cx,Cd⟩:=HS.out
   rw[HN.out]at Cx Cd;obtain⟨b,o,cap,he,_,_,Cj,Em⟩:=Cx.pos (by omega);simp only[Value.slice.injEq,true_and]at he;obtain⟨rfl,rfl⟩:=he
   have Cr:i<scs.length:=by rw[HN.out];exact Aj
   obtain⟨s,hs⟩:=Ae (scs[i]?.getD default)
   have Eh:scs[i]?=some s:=by rw[<- hs,Ac Cr];rfl
   have hx:=Cd i Aj;rw[hs]at hx;have Ce:=aK (g:=gy) (Km bTo (by omega) Em) Aj;obtain⟨y,hy⟩:=Ae (gy i);rw[hy]at hx Ce;have Df:Hid (∀ u∈y.cells,u.oneCell'=true):=Aa (by simp[Value.oneCell']);have HX:=Aa (hx.below bTo hK (show K<=wo.heap.size by omega))
   have oY:i<cs.length:=by rw[Hl.out];exact Aj
   obtain⟨cb,co,ccap,Gg,_,_,kA,Rp⟩:=Ee.pos HC.out (by rw[Hl.out];omega);rw[Hl.out]at Gg;simp only[Value.slice.injEq,true_and]at Gg;obtain⟨rfl,rfl⟩:=Gg;obtain⟨c,Ev⟩:∃ c,cs[i]?=some c:=⟨_,Ac oY⟩;have e0:wo.cell? ⟨cb,co+i,none⟩=some (.int .i64 (c:Int)):=(bTo.cell (p:=⟨cb,co+i,none⟩) (Nat.lt_of_lt_of_le kA hK)).trans (by have := Rp i oY;rw[Ev]at this;exact this)
   have Dl:Hid (∀ W,ScX W.heap.size W s y->Calls Tryz.prog 25 #[y.agg,.int .i64 c] W fun e w'=>∃ z:Vv,e=.returned (.tuple #[z.agg,.bool true])/\Zed (Btw W.heap.size w'.heap.size) w' (fun K W=>VlX K W (vals i) z)/\Below W.heap.size W w'):=Aa fun W hX=>v7.out i s c y W Eh Ev hX
   have Ea:(List.range (i+1)).map vals=(List.range i).map vals++[vals i]:=by rw[List.range_succ];simp
   have Vo:=Aa Ea;clear Em hs Eh hx hy Cx Cd bTo Bb Rp Ev Ea
   go_upto_region 7 with(first
    | (refine wpList_load_mid rfl 46 (.tmp 21) rfl b (o+i*11) rfl y.cells.toList _ Ce Tryz.underlying46 rfl Mc ?_)
    | (refine Iu rfl 46 (.tmp 8) (.tmp 22) rfl y.cells _ Mc rfl Df.out wo.heap.size rfl rfl rfl ?_))
   obtain⟨T2,Jh⟩:∃ T,wo.heap.size=T:=⟨_,rfl⟩;obtain⟨W2,Ax⟩:∃ W,wo.alloc (.cells y.cells 46)=W:=⟨_,rfl⟩
   have b2:Below T2 wo W2:=by rw[<- Ax,<- Jh];exact Af _ _
   have q2:Blk W2 T2 y.cells 46:=by rw[<- Ax,<- Jh];exact Blk.new wo _ _
   rw[Jh];rw[Ax];rw[Jh]at HX Jl;have e1:=(b2.cell (p:=⟨cb,co+i,none⟩) (show cb<T2 by omega)).trans e0;have qS:(fun W'=>Below W2.heap.size W2 W') W2.drew:=Er (Below.refl _ _)
   have ql6:cb<W2.heap.size:=by have := b2.size;omega
   have Om:Hid (∀ W,Below W2.heap.size W2 W->ScX W.heap.size W s y):=Aa fun W hb=>HX.out.below (b2.trans (hb.mono (by have := q2.lt;omega))) (Ab _) (by have := q2.lt;have := hb.size;omega)
   have qln:=Aa b2;have Rb:=Aa Jh;have Bw:=Aa q2;have Xw:=Aa e1;clear Jh Ax q2 b2 Ce Df e0 e1;refine Fz (fun W'=>Below W2.heap.size W2 W') [] (by kernel_rfl) ?_;refine Ar (i:=0) (v:=y.agg) rfl (yieldsIf_load_mid (by kernel_rfl) 46 (.tmp 8) rfl T2 0 rfl y.cells.toList _ (fun W' hS=>(Bw.out.below hS Bw.out.lt).range) Tryz.underlying46 rfl Mc) qS ?_;refine Am (i:=1) (v:=.slice (some ⟨cb,co,none⟩) n cm) rfl qS ?_;refine Am (i:=2) (v:=.int .i64 (i:Int)) rfl qS ?_;refine Am (i:=3) (v:=.pointer (some ⟨cb,co+i,none⟩)) rfl qS ?_;refine Ar (i:=4) (v:=.int .i64 (c:Int)) rfl (.inl ⟨by kernel_rfl,fun W' hS=>by have d0:=(hS.cell (p:=⟨cb,co+i,none⟩) ql6).trans Xw.out;go_simp⟩) qS ?_;refine zo9 (c1:=5) (i:=9) (L0:=?L0) (L1:=?L1) (A:=?A) (some 29) (some 9) 3 41 vv0.cells (fun _ W=>Below W2.heap.size W2 W) (fun v Fp W=>Below W2.heap.size W2 W/\∃ z:Vv,v=.tuple #[z.agg,.bool true]/\(∀ b,Fp b->W2.heap.size<=b/\b<W.heap.size)/\Zed Fp W (fun K W=>VlX K W (vals i) z)) (by kernel_rfl) (by kernel_rfl) ?hrn ?hL rfl rfl (fun _=>rfl) (by decide) (fun W W' h1 h2=>h1.trans (h2.mono h1.size)) qS rfl rfl (fun _=>rfl) (fun a W KK hK=>by go_simp;exact hK) (fun _ W W' h1 h2=>h1.trans (h2.mono h1.size)) ?st1 ?step1 ?htk0 ?htk1 ?hA qS ?h
   case htk0 | htk1 =>
    intro v p Fp W' hF hS H
    refine Am (i:=6) (v:=v) rfl hS ?_;refine Ar (i:=7) (v:=mN v 0) rfl (.inl ⟨by kernel_rfl,fun W' hS=>by obtain⟨_,z,rfl,_⟩:=hF;go_simp<;>rfl⟩) hS ?_;refine Ar (i:=8) (v:=mN v 1) rfl (.inl ⟨by kernel_rfl,fun W' hS=>by obtain⟨_,z,rfl,_⟩:=hF;go_simp<;>rfl⟩) hS ?_;exact H
   case hrn=>kernel_rfl
   case hL=>rfl
   case hA=>intro v p q;exact Vc (by decide) (Vc (by decide) (Vc (by decide) (Vc (by decide) (qfg _ _ _ _))))
   case st1 =>
    rintro v Fp W W' ⟨h1,z,rfl,h3,h4⟩ hb;exact⟨h1.trans (hb.mono h1.size),z,rfl,fun b hF=>⟨(h3 b hF).1,Nat.lt_of_lt_of_le (h3 b hF).2 hb.size⟩,h4.move (Agr.of fun b Gl=>hb.block b (h3 b Gl).2)⟩
   case step1 =>
    intro Fp W p hF KK Hb
    go_simp
    refine(Dl.out W (Om.out W hF)).mono ?_;rintro en w3 ⟨z,rfl,hz,Ak⟩;exact Hb _ _ w3 ⟨hF.trans (Ak.mono hF.size),z,rfl,fun b hb=>⟨Nat.le_trans hF.size hb.1,hb.2⟩,hz⟩ (fun b hb=>.inr hb) Ak
   case h =>
    rintro v Fp k w3 ⟨dO,z,rfl,O9,hz⟩ Oz _ hq hk Oi;obtain⟨zk,zb1,zs1,zb2,zs2,zi⟩:=z;have R6:=hz w3 w3.heap.size (Agr.of fun _ _=>rfl) (fun b hb=>(O9 b hb).2);obtain⟨z1a,z1m,Ge,_⟩:=R6.n.form;obtain⟨z2a,z2m,Cw,_⟩:=R6.d.form;obtain⟨z1n,uM⟩:∃ x,(vals i).l1.length=x:=⟨_,rfl⟩;obtain⟨z2n,vF⟩:∃ x,(vals i).l2.length=x:=⟨_,rfl⟩;rw[uM]at Ge;rw[vF]at Cw;dsimp only at Ge Cw;subst Ge Cw;have HZ:=Aa hz;have Yp:=Aa hq
    have Bd:∀ u∈(⟨zk,zb1,.slice z1a z1n z1m,zb2,.slice z2a z2n z2m,zi⟩:Vv).cells,u.oneCell'=true:=by simp[Value.oneCell']
    have qyu:=Aa Bd;have qfc:W2.heap.size<=k:=hk;clear hz R6 uM vF Oi Bd hq;go_simp
    refine Ap (i:=10) rfl ?_;refine eH 41 41 (.tmp 9) (.tmp 30) rfl (⟨zk,zb1,.slice z1a z1n z1m,zb2,.slice z2a z2n z2m,zi⟩:Vv).cells _ k Yp.out Kn rfl qyu.out rfl rfl ?_;intro w4 t1 t2 t3 t4
    have Uc:Below W2.heap.size W2 w4:=dO.trans (t2 _ qfc);refine⟨fun _=>Uc,?_⟩;refine Ar (i:=11) (v:=.bool true) rfl (.inl ⟨by kernel_rfl,fun W' hS=>by go_simp<;>rfl⟩) Uc ?_;refine Eo (by kernel_rfl) ?_ _;have q4:=t1;have bO:=HZ.out.move (G7 t3 (fun b hb=>(O9 b hb).2) fun b hb=>by cases hb;exact Oz);have aN:=Aa (show ∀ b,Fp b->W2.heap.size<=b/\b<w4.heap.size from fun b hb=>⟨(O9 b hb).1,Nat.lt_of_lt_of_le (O9 b hb).2 t3.size⟩);have Io:=Aa q4;have qj8:=Aa bO;have Ei:=Aa Uc;clear t1 t2 t3 t4 bO q4 HZ Yp dO Uc O9 Oz;go_simp
    obtain⟨zv,sM⟩:∃ z:Vv,z=⟨zk,zb1,.slice z1a z1n z1m,zb2,.slice z2a z2n z2m,zi⟩:=⟨_,rfl⟩;have tZ:=Aa sM
    have b2o:Below wo.heap.size wo W2:=by have := qln.out;rwa[<- Rb.out]at this
    have b14:Below wo.heap.size wo (w4.alloc (.cells (⟨zk,zb1,.slice z1a z1n z1m,zb2,.slice z2a z2n z2m,zi⟩:Vv).cells 41)):=(b2o.trans (Ei.out.mono b2o.size)).alloc (Nat.le_trans b2o.size Ei.out.size) _;have Tz:=Lk.out.own.old b14 (Ab _);have gU:=Aa Tz;have Yw:=Aa b14
    have D6:Hid (Dg 6 [(⟨zk,zb1,.slice z1a z1n z1m,zb2,.slice z2a z2n z2m,zi⟩:Vv).cells.toList]):=Aa (Dg.one rfl fun u hu=>by
     have := qyu.out u (by simpa using hu);exact this)
    have Pz:Hid (∀ (i:Nat) (r:List Value) (j:Nat) (u:Value),([(⟨zk,zb1,.slice z1a z1n z1m,zb2,.slice z2a z2n z2m,zi⟩:Vv).cells.toList]:List (List Value))[i]?=some r->r[j]?=some u->(w4.alloc (.cells (⟨zk,zb1,.slice z1a z1n z1m,zb2,.slice z2a z2n z2m,zi⟩:Vv).cells 41)).cell? ⟨w4.heap.size,0+(i*6+j),none⟩=some u):=Aa fun i r j u h1 h2=>by
     have Jo:i=0:=by have := (List.getElem?_eq_some_iff.1 h1).1;simp at this;omega
     subst Jo;cases h1
     have := (Blk.new w4 (⟨zk,zb1,.slice z1a z1n z1m,zb2,.slice z2a z2n z2m,zi⟩:Vv).cells 41).range j u h2;rw[Nat.zero_mul,Nat.zero_add];exact this
    obtain⟨rs,Ih⟩:=Ae (List.zipWith (fun(_:Vq) (u:Value)=>u.cells.toList) ((List.range i).map vals) us);have Lw:=Aa Ih;have V5:Hid (Be 6 41 w2.heap.size (w4.alloc (.cells (⟨zk,zb1,.slice z1a z1n z1m,zb2,.slice z2a z2n z2m,zi⟩:Vv).cells 41)) (.slice oa i oc) rs):=Aa (by rw[<- Ih];exact gU.out);have Hx:Hid (rs.length=i):=Aa (by rw[<- Ih];exact aU.out);obtain⟨d0,d1,d2,d3,d4,d5⟩:=Io.out.six
    have jbh:w2.heap.size<=w4.heap.size:=by have := Ei.out.size;have := b2o.size;have := Ej.out.size;omega
    have qfk:w2.heap.size<=wo.heap.size:=Ej.out.size;clear Ih Tz b14 sM
    apply (show ∀ (a:Act) (w:World),_->_ from by assumption)
    go_wp2_with (at_builtin;refine Q6 rfl (.tmp 34) (.tmp 36) 44 rfl Tryz.underlying44 Tryz.infoValG (by kernel_rfl) (by decide) rfl V5.out (b:=w4.heap.size) (off:=0) (m:=1) (cap:=1) (ms:=[(⟨zk,zb1,.slice z1a z1n z1m,zb2,.slice z2a z2n z2m,zi⟩:Vv).cells.toList]) rfl rfl D6.out Pz.out (by decide) (by rw[Hx.out];simp[maxLen];omega) (by rw[Hx.out];omega) (by simp;omega) ?_;intro g1 cap1 w5 Hh Bo Ie)
    have iT:=RO.add (a:=vals i) (u:=(⟨zk,zb1,.slice z1a z1n z1m,zb2,.slice z2a z2n z2m,zi⟩:Vv).agg) (G:=Fp) Lk.out (wI Yw.out) (((qj8.out.move (Agr.of fun b hb=>((Below.refl w4.heap.size w4).alloc (Ab _) _).block b (aN.out b hb).2)).imp fun K W h=>⟨_,rfl,h⟩))
     (fun b hb=>⟨Nat.le_trans b2o.size (aN.out b hb).1,by have := (aN.out b hb).2;simp;omega⟩) (by have := Ej.out.size;omega) Bo (by rw[Lw.out];exact Hh) (fun g hg=>by
      simp only[Value.ownBlock,Option.some.injEq]at hg;subst hg
      rcases Ie with h | h
      ·exact .inl h
      ·exact .inr (by rw[h];exact Ab _))
    have Aq:Below w2.heap.size w2 w5:=(Ej.out.trans (Yw.out.mono qfk)).grown Bo (by simp;have := Ei.out.size;have := b2o.size;omega) (fun r hr=>?_)
    ·rw[<- Vo.out]at iT
     exact⟨⟨i+1,_,_,by omega,by go_num,iT,Aq⟩,by simp[intOf];omega⟩
    ·exact V5.out.low hr
  ·obtain rfl:i=n:=by omega
   have E6:=Aa bTo;have Eg:=Lk.out;have qkg:=Aa Eg;clear Eg Lk Bb bTo hi Aj;go_wp2_with fail
   refine bodyPost_ret (v:=.tuple #[.slice oa i oc,.int .i64 0]) (by simp[results,Tryz.results8,go_sem]) rfl ?_;exact⟨_,us,F,rfl,qkg.out.low (by have := Bi.out.size;have := Bz.out.size;have := HT.out;omega),E6.out⟩
theorem zmy {b t:Nat} {w:World} {x y:Xv} (hq:Blk w b (Cq x y) t):w.rangeAt b 11 y.vv.cells.toList:=by
 intro j v hj
 rcases j with _ | _ | _ | _ | _ | _ | j
 case succ.succ.succ.succ.succ.succ=>simp at hj
 all_goals (simp at hj;subst hj;exact hq.at rfl)
theorem qfb {w:World} {k c:Nat} {t:Nat} (hq:Blk w k #[Z c] t):Ee w.heap.size w (.slice (some ⟨k,0,none⟩) 1 1) [c] :=
 Au.mk_cells (Ab _) (by simp[maxLen]) hq.lt fun i hi j hj=>by
  have Jo:i=0:=by simpa using hi
  have Jb:j=0:=by omega
  subst Jo Jb;exact hq.at rfl
structure AwE (T:Nat) (W:World) (B1 B2 B3 b:Nat) (X1 X2 X3:Xv) (s1 s2:Sl):Prop where
 q1:Blk W B1 X1.cells 43
 q2:Blk W B2 X2.cells 43
 q3:Blk W B3 X3.cells 43
 qb:Blk W b (Cq Vy (Ch 2 false s1 false s2 0)) 43
 x1:ExN T W (Cy 60) X1
 x2:ExN T W Ul X2
 x3:ExN T W Wl X3
 vl:VlN T W (wV 2 60) ⟨2,false,s1.val,false,s2.val,0⟩
theorem AwE.move {T B1 B2 B3 b:Nat} {W W':World} {X1 X2 X3:Xv} {s1 s2:Sl} (h:AwE T W B1 B2 B3 b X1 X2 X3 s1 s2) (hb:Below W.heap.size W W'):AwE T W' B1 B2 B3 b X1 X2 X3 s1 s2 :=
 ⟨h.q1.below hb h.q1.lt,h.q2.below hb h.q2.lt,h.q3.below hb h.q3.lt,h.qb.below hb h.qb.lt,h.x1.move (An.of hb),h.x2.move (An.of hb),h.x3.move (An.of hb),h.vl.move (An.of hb)⟩
theorem qf9 (W:World) (c:Nat) (X Y:Xv) (e1 e2:Gx) (s:Sc) (hq:Blk W c (Cq X Y) 43) (h1:ExG W.heap.size W e1 X) (h2:ExG W.heap.size W e2 Y) (g1:e1.good=true) (g2:e2.good=true) (p1:e1.parts<=2^20) (p2:e2.parts<=2^20)
  (Cd:Oc [e1,e2]=([s],0)) (ho:qbz s) (In:Pe W.heap.size W) :
  Calls Tryz.prog 14 #[.slice (some ⟨c,0,none⟩) 2 2] W fun e w'=>∃ y:Dv,e=.returned (.tuple #[y.agg,.int .i64 0])/\DgN W.heap.size w' y [s] [e1,e2]/\Below W.heap.size W w' :=
 qir W.heap.size _ [e1,e2] (g2x X Y) W (qbr hq hq.lt) (fun i a ha=>by
  rcases i with _ | _ | i
  ·cases ha;exact h1
  ·cases ha;exact h2
  ·cases ha) (fun a ha=>by
  simp only[List.mem_cons,List.not_mem_nil,or_false]at ha
  rcases ha with rfl | rfl
  ·exact g1
  ·exact g2) (fun a ha=>by
  simp only[List.mem_cons,List.not_mem_nil,or_false]at ha
  rcases ha with rfl | rfl
  ·exact p1
  ·exact p2) (Ab _) (by simp) [s] Cd ho.okD (by simp) ho.prod In
theorem zhq (W:World) (In:Pe W.heap.size W) :
  Calls Tryz.prog 14 #[.slice none 0 0] W fun e w'=>∃ y:Dv,e=.returned (.tuple #[y.agg,.int .i64 0])/\DgN W.heap.size w' y [] []/\Below W.heap.size W w' :=
 qir W.heap.size _ [] (fun _=>xz) W (Au.nil none 0 (Nat.zero_le _) (fun _=>rfl)) (fun i a ha=>by cases ha) (fun a ha=>by cases ha) (fun a ha=>by cases ha) (Ab _) (by simp) [] zqu (fun s hs=>by cases hs) (by simp) (by decide) In
theorem nU:(Cy 60).parts<=2^20/\Wl.parts<=2^20/\Ul.parts<=2^20/\(Cy 65).parts<=2^20:=by
 refine⟨?_,?_,?_,?_⟩<;>simp[Cy,Wl,Ul,dZ,Kv,Gx.parts,Fu]
theorem zhw {base:Nat} {w:World} {v:Value} {q:Vq} {us:List Value} {F:Nat->Prop} (h:VO base w v [q] us F):∃ (b o c:Nat) (z:Vv),v=.slice (some ⟨b,o,none⟩) 1 c/\w.rangeAt b o z.cells.toList/\VlX w.heap.size w q z/\b<w.heap.size:=by
 have hl:=h.len
 match us,hl with
 | [u],_ =>
  obtain⟨z,rfl,hz⟩:=h.get (i:=0) (a:=q) (u:=u) rfl rfl;obtain⟨b,o,cap,he,_,_,hb,hc⟩:=Au.pos h.rows (by simp);refine⟨b,o,cap,z,he,?_,hz,hb⟩;intro j x hj
  have fH:j<6:=(List.getElem?_eq_some_iff.1 hj).1;have := hc 0 (by simp) j fH;rw[Nat.zero_mul,Nat.zero_add]at this;rw[this]
  show some (((([z.agg.cells.toList]:List (List Value))[0]?.getD [])[j]?).getD undef)=some x
  rw[qzj];simp only[List.getElem?_cons_zero,Option.getD_some,hj]
end Go.Proofs.YtlldjmagbjjeoaaGreatDoor
