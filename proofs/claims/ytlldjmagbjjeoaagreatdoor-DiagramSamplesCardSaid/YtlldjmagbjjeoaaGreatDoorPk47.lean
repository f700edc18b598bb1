/- Contracts and plain laws, several texts in one (DlSa). No conditions beyond those stated. -/
import Derived.Test.YtlldjmagbjjeoaaGreatDoorPk41
import Derived.Test.YtlldjmagbjjeoaaGreatDoorPk46
set_option maxRecDepth 100000
set_option maxHeartbeats 40000000
namespace Go.Proofs.YtlldjmagbjjeoaaGreatDoor
open Go.RowKit
set_option linter.unusedVariables false
theorem qsx {base:Nat} {w:World} {v:Value} {l:List Vq} {us:List Value} {F:Nat->Prop} (h:VO base w v l us F) {i:Nat} {q:Vq} (hi:l[i]?=some q):∃ (b o c:Nat) (z:Vv),v=.slice (some ⟨b,o,none⟩) l.length c/\w.rangeAt b (o+i*6) z.cells.toList/\VlX w.heap.size w q z/\b<w.heap.size:=by
 have Cr:=(List.getElem?_eq_some_iff.1 hi).1;obtain⟨u,hu⟩:∃ u,us[i]?=some u:=⟨_,Ac (by rw[h.len];exact Cr)⟩;obtain⟨z,rfl,hz⟩:=h.get hi hu;obtain⟨b,o,cap,he,_,_,hb,hc⟩:=Au.pos h.rows (by omega);refine⟨b,o,cap,z,he,?_,hz,hb⟩;intro j x hj
 have fH:j<6:=(List.getElem?_eq_some_iff.1 hj).1;have := hc i Cr j fH;rw[Nat.add_assoc,this,vI hi hu,Option.getD_some,qzj,hj,Option.getD_some]
theorem zfo (qr3:qzo) (K:Nat) (m:List Nat) (mv:Value) (n:List Nat) (nv:Value) (nl:List Nat) (arr:Array Value) (w:World) (hm:U8s K w mv m) (Ng:∀ y∈m,y<256) (hn:U8s K w nv n) (Lf:∀ y∈n,y<256)
  (hl:nl.length=12) (hx:∀ y∈nl,y<256) (qpn:arr=(nl.map fun n:Nat=>Value.int .u8 (n:Int)).toArray) (hK:K<=w.heap.size) (In:Pe K w) :
  Calls Tryz.prog 3 #[mv,nv,.agg arr] w fun e w'=>e=.returned (.bool true)/\Below w.heap.size w w':=by
 obtain⟨W1,Ah⟩:=Ae (w.alloc (.cells arr 23))
 have b1:Below w.heap.size w W1:=by rw[<- Ah];exact Af _ _
 have q1:Blk W1 w.heap.size arr 23:=by rw[<- Ah];exact Blk.new w _ _
 have s1:W1.heap.size=w.heap.size+1:=by rw[<- Ah];simp
 obtain⟨B,hB⟩:=Ae w.heap.size;have HB:=Aa hB;have HW:=Aa Ah;rw[hB]at b1 q1 s1 hK ⊢;have hf:=zff K m mv n nv W1 (hm.below b1 hK (Ab K)) Ng (hn.below b1 hK (Ab K)) Lf (by omega);obtain⟨ft,J4⟩:∃ f,gG m n=f:=⟨_,rfl⟩;rw[J4]at hf
 have iE:∃ a k c,mv=.slice a k c:=by obtain⟨a,c,h,_⟩:=id (Au.form hm);exact⟨a,_,c,h⟩
 have Y7:∃ a k c,nv=.slice a k c:=by obtain⟨a,c,h,_⟩:=id (Au.form hn);exact⟨a,_,c,h⟩
 obtain⟨ma,mk,mc,rfl⟩:=iE;obtain⟨na,nk,nc,rfl⟩:=Y7;have HF:=Aa hf;have HM:=Aa hm;have HN:=Aa hn;have zth:=Aa Ng;have zey:=Aa Lf;have Bc:=Aa q1;have Bi:=Aa b1;have S1:=Aa s1;have zri:=Aa qpn;have HX:=Aa hx;have HL:=Aa hl;have Rl:=Aa In;have qx3:=Aa qr3
 have qlw:B<W1.heap.size:=by omega
 clear hB Ah hm hn q1 b1 s1 qpn hx hl Ng Lf hf In qr3;go_enter Tryz.func3,Tryz.ntmps3
 go_upto_region 1 with fail
 simp only[HB.out];rw[HW.out];clear HW;go_wp2_with fail
 refine HF.out.mono ?_;clear HF;rintro e w2 ⟨rfl,Ai⟩;have b2:Below B w w2:=Bi.out.trans (Ai.mono (by omega));have Az:=Ai.size
 cases ft with
 | false =>
  have ha:=qx3.out B w2 (by omega) ((Rl.out.on (b2.mono hK)).up hK);have HA:=Aa ha;have Bz:=Aa b2;clear ha b2 Ai;go_wp2_with fail
  refine HA.out.mono ?_;rintro e wf ⟨rfl,gY⟩;have bf:=Bz.out.trans (gY.mono (by omega));clear gY HA;go_wp2_with fail
  go_ret
  exact⟨rfl,bf⟩
 | true =>
  have hc:=ztf K m (.slice ma mk mc) n (.slice na nk nc) w2 (HM.out.below b2 hK (Ab K)) zth.out (HN.out.below b2 hK (Ab K)) zey.out (by omega) J4 (Rl.out.on (b2.mono hK));have HC:=Aa hc;have aG:=Aa J4;have fV:=Aa Ai;have Bz:=Aa b2;clear hc J4 Ai b2;go_wp2_with fail
  refine HC.out.mono ?_;clear HC;rintro e w3 ⟨b,X,Y,y,rfl,hb,hq,hX,hY,Fo,Ak⟩;obtain⟨ls,Ql,Cd,Rr,Uo,qnj⟩:=@qvd m n;obtain⟨l1,l2,l3⟩:=Fo.lens;obtain⟨⟨sa,sn,sm⟩,⟨da,dn,dm⟩,⟨fa,fn,fm⟩,rr⟩:=y;dsimp only[Dv.agg,Dv.cells,Sl.val]at l1 l2 l3 Fo ⊢;have Ep:=Ak.size;obtain⟨D,hD⟩:=Ae w3.heap.size;obtain⟨W4,Fc⟩:∃ W,w3.alloc (.cells #[.slice sa sn sm,.slice da dn dm,.slice fa fn fm,.int .i64 rr] 31)=W:=⟨_,rfl⟩
  have b4:Below D w3 W4:=by rw[<- Fc,<- hD];exact Af _ _
  have q4:Blk W4 D #[.slice sa sn sm,.slice da dn dm,.slice fa fn fm,.int .i64 rr] 31:=by rw[<- Fc,<- hD];exact Blk.new w3 _ _
  have s4:W4.heap.size=D+1:=by rw[<- Fc,<- hD];simp
  have Bd:∀ u∈(#[.slice sa sn sm,.slice da dn dm,.slice fa fn fm,.int .i64 rr]:Array Value),u.oneCell'=true:=by simp[Value.oneCell']
  have Df:=Aa Bd;have HD:=Aa hD;have lH:=Aa Fc;have zvp:=zcm m n;have Hk:=qpy aG.out;obtain⟨st,Ls⟩:=Ae ((prT m n).2);obtain⟨rt,Gt⟩:=Ae ((prT m n).1);rw[Ls,Gt,Ql]at Fo Hk;rw[Ql]at l1;rw[hD]at Fo hX hY Ep
  have qb:b<D:=by have := hq.lt;omega
  have I0:=Aa (Fo.below b4 (Ab _) (Ab D));have iU:=Aa (hX.below b4 (Ab _) (Ab D));have jas:=Aa (hY.below b4 (Ab _) (Ab D));have Io:=Aa q4;have E8:=Aa (hq.below b4 qb);have S4:=Aa s4;have zh3:Hid (Below B w W4):=Aa (Bz.out.trans ((Ak.mono (by omega)).trans (b4.mono (by omega))));have Yw:Hid (Below W1.heap.size W1 W4):=Aa (fV.out.trans ((Ak.mono Az).trans (b4.mono (by omega))));have Ig:=Aa Hk;have Hy:=Aa Rr;have Qp:=Aa Uo;have zzi:=Aa qnj;obtain⟨ln,Ms⟩:∃ k,ls.length=k:=⟨_,rfl⟩;have Mu:=Aa Ms
  have jbq:ln<=12:=by rw[<- Ms];exact Rr.len
  rw[Ms]at l1;subst l1;clear Ms hb hq hX hY Fo Ak Ql Cd Rr Uo qnj l2 l3 hD Fc b4 q4 s4 Bd zvp Hk Ls Gt fV Bz
  go_upto_region 4 with(refine Iu rfl 31 (.tmp 8) (.tmp 30) rfl #[.slice sa sn sm,.slice da dn dm,.slice fa fn fm,.int .i64 rr] _ cO rfl Df.out w3.heap.size rfl rfl rfl ?_)
  simp only[HD.out];rw[lH.out];clear HD lH Df
  have Pv:∀ i s,ls[i]?=some s->Tp nl ls i∈Bf s/\2<=(Bf s).length/\Tp nl ls i=(Bf s)[nl[i]?.getD 0%(Bf s).length]?.getD 0:=fun i s hs=>qiu Hy.out Qp.out hs
  have qkh:=Aa Pv;have qqi:Hid (Blk W4 B arr 23):=Aa (Bc.out.below Yw.out Bc.out.lt);obtain⟨c0,c1,c2,c3⟩:=Io.out.four
  have jbj:decide ((sn:Int)>12)=false:=by simp;omega
  obtain⟨BB,qv7⟩:=Ae W4.heap.size;have Ys:=Aa qv7
  have qu3:D<BB:=by have := Io.out.lt;omega
  have qkn:B<BB:=by have := qqi.out.lt;omega
  clear Pv qv7
  go_upto_region 7 with fail
  go_wp2_with fail
  clear c0 c1 c2 c3;go_loopw [10,43] (fun ov iv wr=>∃ i:Nat,i<=sn/\iv=.int .i64 i/\Dt BB wr ov (Wc nl ls i)/\Below BB W4 wr) (fun _ iv _=>sn-(intOf iv).toNat)
  case atStart=>exact⟨0,Nat.zero_le _,rfl,Dt.nil _ _,Below.refl _ _⟩
  case round =>
   obtain⟨i,hi,rfl,qkp,Bb⟩:=hrel;obtain⟨wo,rfl⟩:∃ wo:World,wo=wr:=⟨_,rfl⟩;obtain⟨oa,oc,qvb,_,_⟩:=id qkp.form;rw[S6]at qvb;subst qvb
   have Jl:BB<=wo.heap.size:=by have := Bb.size;have := Ys.out;omega
   have Vm:=Aa qkp;have Ej:=Aa Bb;clear qkp Bb
   by_cases Aj:i<sn
   ·obtain⟨gy,Cx,Cd⟩:=I0.out.s
    dsimp only[Sl.val]at Cx;rw[Mu.out]at Cx Cd;obtain⟨b0,o0,cap0,uL,_,_,Cj,Em⟩:=Cx.pos (by omega);simp only[Value.slice.injEq,true_and]at uL;obtain⟨rfl,rfl⟩:=uL
    have Cr:i<ls.length:=by rw[Mu.out];exact Aj
    obtain⟨s,hs⟩:=Ae (ls[i]?.getD default)
    have Eh:ls[i]?=some s:=by rw[<- hs,Ac Cr];rfl
    have hx:=Cd i Aj;rw[hs]at hx;have Ce:=aK (g:=gy) (Km Ej.out (show b0<BB by omega) Em) Aj;obtain⟨y,hy⟩:=Ae (gy i);rw[hy]at hx Ce;have Df:Hid (∀ u∈y.cells,u.oneCell'=true):=Aa (by simp[Value.oneCell']);have vA:=hx.below Ej.out (show D<=BB by omega) (show D<=wo.heap.size by omega);obtain⟨S,hS⟩:=Ae wo.heap.size;obtain⟨W5,Ez⟩:∃ W,wo.alloc (.cells y.cells 46)=W:=⟨_,rfl⟩
    have b5:Below S wo W5:=by rw[<- Ez,<- hS];exact Af _ _
    have q5:Blk W5 S y.cells 46:=by rw[<- Ez,<- hS];exact Blk.new wo _ _
    have s5:W5.heap.size=S+1:=by rw[<- Ez,<- hS];simp
    have r5:W5.rangeAt S 0 y.cells.toList:=q5.range;obtain⟨X4,Qg,Ga⟩:=qkh.out i s Eh;have Hm:=List.mem_of_getElem? Eh;have Gy:=dD Hy.out Qp.out s Hm;rw[hS]at Jl;have Ba:=xM W5.heap.size s y W5 (vA.below b5 (by omega) (by omega)) (Ab _) Gy.1 Gy.2;have Hl:=Aa Ba;obtain⟨L,hL⟩:=Ae (Bf s);rw[hL]at Hl X4 Qg Ga;obtain⟨gn,We⟩:=Ae L.length;rw[We]at Qg Ga;obtain⟨p,hp⟩:=Ae (Tp nl ls i);obtain⟨x,Gi⟩:=Ae (nl[i]?.getD 0);rw[hp,Gi]at Ga;obtain⟨j,hj⟩:=Ae (x%gn);rw[hj]at Ga
    have Ot:j<gn:=by rw[<- hj];exact Nat.mod_lt _ (by omega)
    have Ng:Int.tmod (x:Int) (gn:Int)=(j:Int):=by rw[Int.tmod_eq_emod_of_nonneg (by omega),<- hj];simp
    have quj:i<12:=by omega
    have Pq:x<256:=by
     have Et:i<nl.length:=by rw[HL.out];exact quj
     rw[<- Gi,Ac Et,Option.getD_some];exact HX.out _ (List.getElem_mem Et)
    have qst:IntKind.i64.wrap (x:Int)=x:=Su (by omega) (by omega)
    have qog:arr[i]?=some (.int .u8 (x:Int)):=by
     have Et:i<nl.length:=by rw[HL.out];exact quj
     rw[zri.out];simp only[List.getElem?_toArray,List.getElem?_map];rw[Ac Et]at Gi ⊢;rw[Option.getD_some]at Gi;simp[Gi]
    have eA:wo.cell? ⟨B,i,none⟩=some (.int .u8 (x:Int)):=(qqi.out.below Ej.out qkn).at qog;have HS:=Aa hS;have Wb:=Aa Ez;have HP:=Aa hp;have aQ:=Aa Ga;have lB:=Aa We;have Hf:=Aa b5;have qjr:=Aa eA
    have eU:((gn:Int)==0)=false:=by simp;omega
    have jay:¬ (gn:Int)=0:=by omega
    clear hs Eh hx hy Cx Cd Em vA Ez hS b5 q5 X4 Hm Gy Ba hL We hp Gi hj qog Ga eA
    go_upto_region 10 with(first
     | (refine wpList_load_mid rfl 46 (.tmp 46) rfl b0 (o0+i*11) rfl y.cells.toList _ Ce Tryz.underlying46 rfl Mc ?_)
     | (refine Iu rfl 46 (.tmp 12) (.tmp 47) rfl y.cells _ Mc rfl Df.out wo.heap.size rfl rfl rfl ?_))
    simp only[HS.out];rw[Wb.out];clear Ce;go_wp2_with (refine wpList_load_mid rfl 46 (.tmp 12) rfl S 0 rfl y.cells.toList _ r5 Tryz.underlying46 rfl Mc ?_)
    refine Hl.out.mono ?_;rintro e w6 ⟨gv,rfl,K6,Bk⟩;obtain⟨ga,gc,rfl,_,_⟩:=id K6.form;rw[lB.out];have K5:=K6.nats;obtain⟨cb,co,ccap,Gg,_,_,kA,Rp⟩:=Ee.pos K5 (by rw[lB.out];omega);rw[lB.out]at Gg;simp only[Value.slice.injEq,true_and]at Gg;obtain⟨rfl,rfl⟩:=Gg;have bo6:Below S wo w6:=Hf.out.trans (Bk.mono (by omega))
    have eP:w6.cell? ⟨cb,co+j,none⟩=some (.int .i64 (p:Int)):=by
     have h1:=Rp j (by rw[lB.out];exact Ot);rw[aQ.out];exact h1
    have eA6:w6.cell? ⟨B,i,none⟩=some (.int .u8 (x:Int)):=(bo6.cell (p:=⟨B,i,none⟩) (show B<S by omega)).trans qjr.out;have qum:=Vm.out.old bo6 (by rw[HS.out];exact Ab _);have zad:=Aa qum;have qmt:Below BB W4 w6:=Ej.out.trans (bo6.mono Jl);have B5:=Aa qmt
    have Nt:BB<=w6.heap.size:=by have := bo6.size;have := HS.out;omega
    have O1:Hid (Wc nl ls (i+1)=Wc nl ls i++[p]):=Aa (by rw[ztl,HP.out]);have zjl:Hid ((Wc nl ls i).length+1<=2^40):=Aa (by rw[S6];omega);have Ja:Hid ((Wc nl ls i).length=i):=Aa (S6 nl ls i);clear Hl K6 K5 Rp Bk bo6 qum qmt aQ r5 HP;go_wp2_with (at_builtin;refine xJ rfl (.tmp 53) (.tmp 64) rfl rfl rfl (zad.out.old (Af _ _) (Ab _)) ((Blk.new w6 #[Z p] _).at rfl) zjl.out (by simp;omega) ?_;rw[Ja.out];intro g1 cap1 w7 qa1 Qx jL)
    have Ct:Below BB W4 w7:=(B5.out.alloc Nt _).grown Qx (by simp;omega) (fun r hr=>(Or zad.out hr).1);exact⟨⟨i+1,by omega,by go_num,by rw[O1.out];exact qa1,Ct⟩,by simp[intOf];omega⟩
   ·obtain rfl:i=sn:=by omega
    have K5:=Vm.out.nats;have qtd:=(I0.out.below Ej.out (show D<=BB by omega) (Ab D)).below (Below.refl wo.heap.size wo) (show D<=wo.heap.size by omega) (show D<=wo.heap.size by omega)
    have Hm:=qqx wo.heap.size ⟨⟨sa,i,sm⟩,⟨da,dn,dm⟩,⟨fa,fn,fm⟩,rr⟩ ls st rt (.slice oa i oc) (Wc nl ls i) (Xq nl ls) wo qtd Ig.out (dD Hy.out Qp.out) K5 (by have := @zds nl ls Hy.out Qp.out;rwa[Mu.out]at this) (Ab _) (fun j s c y W hs hc hX=>by
     have hj:j<i:=by have := (List.getElem?_eq_some_iff.1 hc).1;rwa[S6]at this
     rw[qj4 hj,Option.some.injEq]at hc;subst hc;have hm:=List.mem_of_getElem? hs
     have e:Xq nl ls j=Jg s (Tp nl ls j):=by unfold Xq;rw[hs,Option.getD_some]
     rw[e]
     exact zdm W.heap.size s y _ W hX (Ab _) 8 (qmy (Hy.out.each s hm) (Qp.out s hm)) (by decide) (qqs (qkh.out j s hs).1).2)
    rw[Mu.out]at Hm;dsimp only[Dv.agg,Dv.cells,Sl.val]at Hm;have v7:=Aa Hm;obtain⟨c0,c1,c2,c3⟩:=(Io.out.below Ej.out qu3).four;clear Hm qtd K5;go_wp2_with fail
    refine v7.out.mono ?_;clear v7 c0 c1 c2 c3;rintro e w8 ⟨vv,us,F,rfl,Qq,Ey⟩;have qev:Below BB W4 w8:=Ej.out.trans (Ey.mono Jl);have nJ:=Ey.size;obtain⟨va,vc,pG,_,_⟩:=Qq.own.form
    have Mr:(List.zipWith (fun(_:Vq) (u:Value)=>u.cells.toList) ((List.range i).map (Xq nl ls)) us).length=i:=by rw[List.length_zipWith,Qq.len,Nat.min_self,List.length_map,List.length_range]
    rw[Mr]at pG;subst pG;have qv3:=Aa Qq;have zuo:=Aa (Vm.out.old Ey (Ab _));have qo7:=Aa qev
    have zuw:((i:Int) != (i:Int))=false:=by simp
    obtain⟨c0,c1,c2,c3⟩:=(Io.out.below qev qu3).four;clear Qq Mr Ey qev Vm Ej;go_wp2_with fail
    clear c0 c1 c2 c3;obtain⟨B8,zww⟩:∃ z,w8.heap.size=z:=⟨_,rfl⟩;have Rm:=Aa zww;go_loopw [85] (fun iv wr=>∃ k:Nat,k<=i/\iv=.int .i64 k/\Below B8 w8 wr) (fun iv _=>i-(intOf iv).toNat)
    case atStart=>exact⟨0,Nat.zero_le _,rfl,Below.refl _ _⟩
    case round =>
     obtain⟨k,hk,rfl,Bb⟩:=hrel;obtain⟨wp,rfl⟩:∃ wp:World,wp=wr:=⟨_,rfl⟩
     have o9:B8<=wp.heap.size:=by have := Bb.size;have := Rm.out;omega
     have qwk:BB<=B8:=by have := Rm.out;omega
     have Ej:=Aa Bb;clear Bb
     by_cases Xd:k<i
     ·obtain⟨gy,Cx,Cd⟩:=I0.out.s
      dsimp only[Sl.val]at Cx;rw[Mu.out]at Cx Cd;obtain⟨b0,o0,cap0,uL,_,_,Cj,Em⟩:=Cx.pos (by omega);simp only[Value.slice.injEq,true_and]at uL;obtain⟨rfl,rfl⟩:=uL
      have Cr:k<ls.length:=by rw[Mu.out];exact Xd
      obtain⟨s,hs⟩:=Ae (ls[k]?.getD default)
      have Eh:ls[k]?=some s:=by rw[<- hs,Ac Cr];rfl
      have hx:=Cd k Xd;rw[hs]at hx;have zab:Below BB W4 wp:=qo7.out.trans (Ej.out.mono qwk);have Ce:=aK (g:=gy) (Km zab (show b0<BB by omega) Em) Xd;obtain⟨y,hy⟩:=Ae (gy k);rw[hy]at hx Ce;have Df:Hid (∀ u∈y.cells,u.oneCell'=true):=Aa (by simp[Value.oneCell']);have vA:=hx.below zab (show D<=BB by omega) (show D<=wp.heap.size by omega);obtain⟨S,hS⟩:=Ae wp.heap.size;obtain⟨W9,Cf⟩:∃ W,wp.alloc (.cells y.cells 46)=W:=⟨_,rfl⟩
      have b9:Below S wp W9:=by rw[<- Cf,<- hS];exact Af _ _
      have q9:Blk W9 S y.cells 46:=by rw[<- Cf,<- hS];exact Blk.new wp _ _
      have s9:W9.heap.size=S+1:=by rw[<- Cf,<- hS];simp
      rw[hS]at o9;have b89:Below B8 w8 W9:=Ej.out.trans (b9.mono o9)
      have hq:((List.range i).map (Xq nl ls))[k]?=some (Xq nl ls k):=by simp[Xd]
      obtain⟨vb,vo,vcc,z,Qb,qQ,eW,eK⟩:=qsx (qv3.out.old b89 (by rw[Rm.out];exact Ab _)) hq;rw[List.length_map,List.length_range]at Qb;simp only[Value.slice.injEq,true_and]at Qb;obtain⟨rfl,rfl⟩:=Qb
      have zy6:vb<B8:=by
       have h1:=qsx qv3.out hq;obtain⟨vb',vo',vcc',z',zsq,_,_,zye⟩:=h1;simp only[Value.slice.injEq,Option.some.injEq,Addr.mk.injEq]at zsq;have := Rm.out;omega
      obtain⟨Gw,Pn⟩:=zlk (nl:=nl) Hy.out Qp.out Eh;have Hm:=List.mem_of_getElem? Eh;have Gy:=dD Hy.out Qp.out s Hm
      have qdd:∀ W,Below W9.heap.size W9 W->Calls Tryz.prog 9 #[y.agg,z.agg] W fun e w'=>e=.returned (.tuple #[.int .i64 (Tp nl ls k:Int),.bool true])/\Below W.heap.size W w':=fun W hb=>by
       have h1:=zqo W.heap.size s y (Xq nl ls k) z W ((vA.below b9 (by omega) (show wp.heap.size<=W9.heap.size by omega)).below hb (Ab _) hb.size) (eW.below hb (Ab _) hb.size) (Ab _) Gy.1 Pn Gy.2;rw[Gw]at h1;exact h1
      obtain⟨pk,Pv⟩:=Ae (Tp nl ls k);rw[Pv]at qdd;have K5:=(zuo.out.old b89 (by rw[Rm.out];exact Ab _)).nats;obtain⟨cb,co,ccap,Gg,_,_,kA,Rp⟩:=Ee.pos K5 (by rw[S6];omega);rw[S6]at Gg;simp only[Value.slice.injEq,true_and]at Gg;obtain⟨rfl,rfl⟩:=Gg
      have eP:W9.cell? ⟨cb,co+k,none⟩=some (.int .i64 (pk:Int)):=by
       have h1:=Rp k (by rw[S6];exact Xd);rw[qj4 Xd,Option.getD_some,Pv]at h1;exact h1
      have Dl:=Aa qdd;have zb0:=Aa q9;have kE:=Aa qQ;have HS:=Aa hS;have Hs:=Aa Cf;have zhf:=Aa b89;obtain⟨z1a,z1m,Ge,_⟩:=eW.n.form;obtain⟨z2a,z2m,Cw,_⟩:=eW.d.form;obtain⟨z1n,uM⟩:∃ x,(Xq nl ls k).l1.length=x:=⟨_,rfl⟩;obtain⟨z2n,vF⟩:∃ x,(Xq nl ls k).l2.length=x:=⟨_,rfl⟩;rw[uM]at Ge;rw[vF]at Cw;obtain⟨zk,zb1,zs1,zb2,zs2,zi⟩:=z;dsimp only at Ge Cw;subst Ge Cw
      have zxq:((pk:Int) != (pk:Int))=false:=by simp
      have zxi:cb<W9.heap.size:=kA
      have lS9:S<W9.heap.size:=by omega
      have EP:=Aa eP;clear hs Eh hx hy Cx Cd Em vA Cf hS b9 q9 b89 hq qQ eW Gw Pn Hm Gy qdd Pv K5 Rp uM vF eP
      go_upto_region 21 with(first
       | (refine wpList_load_mid rfl 46 (.tmp 88) rfl b0 (o0+k*11) rfl y.cells.toList _ Ce Tryz.underlying46 rfl Mc ?_)
       | (refine Iu rfl 46 (.tmp 17) (.tmp 89) rfl y.cells _ Mc rfl Df.out wp.heap.size rfl rfl rfl ?_))
      simp only[HS.out];rw[Hs.out];clear Ce Df Hs;have qS:(fun W'=>Below W9.heap.size W9 W') W9.drew:=Er (Below.refl _ _);refine Fz (fun W'=>Below W9.heap.size W9 W') [] (by kernel_rfl) ?_;refine Ar (i:=0) (v:=y.agg) rfl (yieldsIf_load_mid (by kernel_rfl) 46 (.tmp 17) rfl S 0 rfl y.cells.toList _ (fun W' hS=>(zb0.out.below hS lS9).range) Tryz.underlying46 rfl Mc) qS ?_;refine Am (i:=1) (v:=.slice (some ⟨vb,vo,none⟩) i vc) rfl qS ?_;refine Am (i:=2) (v:=.int .i64 (k:Int)) rfl qS ?_;refine Am (i:=3) (v:=.pointer (some ⟨vb,vo+k*6,none⟩)) rfl qS ?_;refine Ar (i:=4) (v:=(⟨zk,zb1,.slice z1a z1n z1m,zb2,.slice z2a z2n z2m,zi⟩:Vv).agg) rfl (yieldsIf_load_mid (by kernel_rfl) 41 (.tmp 94) rfl vb (vo+k*6) (by go_simp) (⟨zk,zb1,.slice z1a z1n z1m,zb2,.slice z2a z2n z2m,zi⟩:Vv).cells.toList _ (fun W' hS j x hj=>(hS.cell (p:=⟨vb,vo+k*6+j,none⟩) eK).trans (kE.out j x hj)) Tryz.underlying41 rfl Kn) qS ?_;refine Ap (i:=5) rfl ?_;go_simp
      refine(Dl.out _ qS).mono ?_;rintro e w10 ⟨rfl,Ci⟩;have qS10:Below W9.heap.size W9 w10:=qS.trans (Ci.mono qS.size)
      have qS11:Below (S+1) W9 w10:=by rw[<- s9];exact qS10
      go_simp
      refine Am (i:=6) (v:=.tuple #[.int .i64 (pk:Int),.bool true]) rfl qS11 ?_;refine Am (i:=7) (v:=.int .i64 (pk:Int)) rfl qS11 ?_;refine Am (i:=8) (v:=.bool true) rfl qS11 ?_;refine Am (i:=9) (v:=.int .i64 (pk:Int)) rfl qS11 ?_;refine Am (i:=10) (v:=.bool true) rfl qS11 ?_;refine Eo (by kernel_rfl) ?_ _;have eP10:=(qS10.cell (p:=⟨cb,co+k,none⟩) zxi).trans EP.out;have qwp:Below B8 w8 w10:=zhf.out.trans (qS10.mono (by omega));have gF:=Aa qwp;clear Ci qS qS10 qS11 Dl qwp EP;go_simp
      go_wp2_with fail
      exact⟨⟨k+1,by omega,by go_num,gF.out⟩,by simp[intOf];omega⟩
     ·obtain rfl:k=i:=by omega
      have bw13:Below B w wp:=zh3.out.trans (((qo7.out.trans (Ej.out.mono qwk))).mono (by omega));have ha:=qx3.out B wp (by have := bw13.size;have := HB.out;omega) ((Rl.out.on (bw13.mono hK)).up hK);have HA:=Aa ha;have Cm:=Aa bw13
      have zuz:B<=wp.heap.size:=by have := bw13.size;have := HB.out;omega
      clear ha bw13;go_wp2_with fail
      refine HA.out.mono ?_;rintro e wf ⟨rfl,gY⟩;have bf:=Cm.out.trans (gY.mono zuz);clear gY HA;go_wp2_with fail
      go_ret
      exact⟨rfl,bf⟩
end Go.Proofs.YtlldjmagbjjeoaaGreatDoor
