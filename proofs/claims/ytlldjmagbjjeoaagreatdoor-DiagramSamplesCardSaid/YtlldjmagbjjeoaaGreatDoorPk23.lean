/- Contracts and plain laws, several texts in one (GScl). No conditions beyond those stated. -/
import Derived.Test.YtlldjmagbjjeoaaGreatDoorPk22
set_option maxRecDepth 100000
set_option maxHeartbeats 40000000
namespace Go.Proofs.YtlldjmagbjjeoaaGreatDoor
open Go.RowKit
set_option linter.unusedVariables false
attribute [local go_sem] Oper.semAt_some
theorem CtO.low2 {base base':Nat} {w:World} {F:Nat->Prop} {c:Value} {cs:List Vq} (h:CtO base w F c cs) (hb:base'<=base):CtO base' w F c cs:=by
 obtain⟨zs,h1,h2,h3⟩:=h;exact⟨zs,h1,h2.mono hb,h3⟩
theorem Oo.mono {base base':Nat} {w:World} {v:Value} {l:List Sc} (h:Oo base w v l) (hb:base'<=base):Oo base' w v l:=by
 obtain⟨ys,F,h⟩:=h;exact⟨ys,F,h.len,h.own.mono hb,fun b hF=>⟨Nat.le_trans hb (h.rng b hF).1,(h.rng b hF).2⟩,h.nv,h.nc,h.dat,fun i hi=>(h.cut i hi).low2 hb,h.dis⟩
theorem CtO.zed {base:Nat} {w:World} {F:Nat->Prop} {c:Value} {cs:List Vq} (h:CtO base w F c cs) (hF:∀ b,F b->base<=b/\b<w.heap.size):Zed (Btw base w.heap.size) w fun K W=>Yl K W c cs:=by
 obtain⟨zs,h1,h2,h3⟩:=h;intro W K ha hK
 refine⟨fun i=>zs[i]?.getD vv0,?_,fun i hi=>((h3 i hi).mono fun b hb=>hF b hb) W K ha hK⟩;have hr:=Be.zed h2 (F:=Btw base w.heap.size) (fun b hb=>⟨h2.low hb,h2.lt hb⟩) W K ha hK;rw[List.length_map,h1]at hr
 refine hr.congr fun i hi j hj=>?_
 have Fj:i<zs.length:=by omega
 have e1:zs[i]?.getD vv0=zs[i]:=by rw[Ac Fj];rfl
 show _=(zs[i]?.getD vv0).cell j
 rw[e1,List.getElem?_map,Ac Fj];exact qgo _ hj
theorem Oo.zed {base:Nat} {w:World} {v:Value} {l:List Sc} (h:Oo base w v l):Zed (Btw base w.heap.size) w fun K W=>Mo K W v l:=by
 obtain⟨ys,F,h⟩:=h;intro W K ha hK
 refine⟨fun i=>ys[i]?.getD sv0,?_,fun i hi=>⟨((h.dat i hi).1.mono fun b hb=>h.rng b hb) W K ha hK,(h.dat i hi).2,((h.cut i hi).zed fun b hb=>h.rng b hb) W K ha hK⟩⟩;have hr:=Be.zed h.own (F:=Btw base w.heap.size) (fun b hb=>⟨h.own.low hb,h.own.lt hb⟩) W K ha hK;rw[List.length_map,h.len]at hr
 refine hr.congr fun i hi j hj=>?_
 have hl:=h.len
 have Fj:i<ys.length:=by omega
 have e1:ys[i]?.getD sv0=ys[i]:=by rw[Ac Fj];rfl
 show _=(ys[i]?.getD sv0).cell j
 rw[e1,List.getElem?_map,Ac Fj];exact qih _ hj
theorem qnc (K:Nat) (v:Value) (l:List Gx) (g:Nat->Xv) (w:World) (hv:Au 9 (fun i j=>(g i).cell j) K w v l.length) (hx:∀ (i:Nat) (a:Gx),l[i]?=some a->ExG K w a (g i)) (Pn:∀ a∈l,a.good=true) (hK:K<=w.heap.size) :
  Calls Tryz.prog 10 #[v] w fun e w'=>∃ v',e=.returned (.tuple #[v',.int .i64 (Oc l).2])/\Oo w.heap.size w' v' (Oc l).1/\Below w.heap.size w w':=by
 obtain⟨va,vcap,rfl,Mr,Mn⟩:=id hv.form;have HV:=Aa hv;have HX:=Aa hx;have HG:=Aa Pn;obtain⟨n,hn⟩:=Ae l.length;have HN:=Aa hn;rw[hn]at HV Mr ⊢;unfold maxLen at Mn;have Ov:Below w.heap.size w ((w.alloc (.cells #[.slice none 0 0] 27)).alloc (.cells #[.int .i64 0] 48)):=(Af _ _).alloc (by simp) _;have q0:Blk ((w.alloc (.cells #[.slice none 0 0] 27)).alloc (.cells #[.int .i64 0] 48)) w.heap.size #[.slice none 0 0] 27:=(Blk.new w _ _).alloc _
 have q1:Blk ((w.alloc (.cells #[.slice none 0 0] 27)).alloc (.cells #[.int .i64 0] 48)) (w.heap.size+1) #[.int .i64 0] 48:=by
  have := Blk.new (w.alloc (.cells #[.slice none 0 0] 27)) #[.int .i64 0] 48;rwa[World.size_alloc]at this
 have Ol:((w.alloc (.cells #[.slice none 0 0] 27)).alloc (.cells #[.int .i64 0] 48)).heap.size=w.heap.size+2:=by simp
 obtain⟨B,hB⟩:=Ae w.heap.size;have HB:=Aa hB;rw[hB]at hK Ov q0 q1 Ol ⊢;clear hv hx Pn hn hB;refine callsIn_wide.1 (callsIn_of_wp_marks (n:=5) Tryz.func10 rfl trivial ?_);simp only[Tryz.ntmps10,List.size_toArray,List.length_cons,List.length_nil,Nat.reduceAdd,Nat.reduceSub,Array.replicate_succ,Array.replicate_zero,List.push_toArray,List.append_toArray,List.nil_append,List.cons_append];gi_wp2_with fail
 simp only[HB.out];gi_loopw [13] (fun i wr=>∃ k:Nat,k<=n/\i=.int .i64 k/\Blk wr B #[.slice none 0 0] 27/\Blk wr (B+1) #[.int .i64 0] 48/\Below B w wr/\B+2<=wr.heap.size/\Hid (∀ i,i<k->Tf (l[i]?.getD default)=true)) (fun i _=>n-(intOf i).toNat)
 case atStart=>exact⟨0,Nat.zero_le _,rfl,q0,q1,Ov,by omega,Aa fun i hi=>absurd hi (Nat.not_lt_zero i)⟩
 case round =>
  obtain⟨k,hk,rfl,r0,r1,Bb,Fh,HF⟩:=hrel
  by_cases Aj:k<n
  ·obtain⟨b,o,cap,he,_,Fl,Cj,hc⟩:=HV.out.pos (by omega)
   simp only[Value.slice.injEq,true_and]at he;obtain⟨rfl,rfl⟩:=he;obtain⟨k0,k1,k2,k3,k4,k5,k6,k7,k8⟩:=N3 (Km Bb (by omega) hc) Aj;obtain⟨ek,Ly⟩:∃ ek,l[k]?=some ek:=⟨_,Ac (by rw[HN.out];exact Aj)⟩;have hq:=HX.out k ek Ly;obtain⟨y,hy⟩:=Ae (g k);rw[hy]at hq k0 k1 k2 k3 k4 k5 k6 k7 k8;have Gq:Below B w (wr.alloc (.cells y.cells 43)):=Bb.alloc (by omega) _;have Ao:=qxe B ek y (wr.alloc (.cells y.cells 43)) (hq.below Gq hK hK) (by simp;omega)
   have zb3:b<wr.heap.size:=by omega
   have eT:Hid (l[k]?.getD default=ek):=Aa (by rw[Ly];rfl);obtain⟨r,hr⟩:=Ae (Tf ek);rw[hr]at Ao;have HR:=Aa hr;have qdk:=Aa Gq;have s0:=r0.alloc (.cells y.cells 43);have s1:=r1.alloc (.cells y.cells 43);have xF:=Aa s0;have Oq:=Aa s1;clear hy hc hq Ly hr Gq s0 s1 r0 r1;gi_wp2_with fail
   refine⟨trivial,callsIn_wide.2 (Ao.mono ?_)⟩;clear Ao k0 k1 k2 k3 k4 k5 k6 k7 k8;rintro en W2 ⟨rfl,Ai⟩;have Ak:Below B w W2:=qdk.out.trans (Ai.mono (by simp;omega));have Az:=Ai.size;rw[World.size_alloc]at Az;have t0:=xF.out.below Ai (by simp;omega);have t1:=Oq.out.below Ai (by simp;omega)
   cases r with
   | false =>
    obtain⟨c0,c1⟩:=t0.one;obtain⟨c2,c3⟩:=t1.one
    have Om:Hid (Oc l=([],2)):=Aa (by
     unfold Oc;rw[if_neg];intro Ht
     rw[List.all_eq_true]at Ht;have h1:=eT.out;rw[Ac (by rw[HN.out];exact Aj),Option.getD_some]at h1;have h2:=Ht ek (by rw[<- h1];exact List.getElem_mem _)
     rw[HR.out]at h2;cases h2)
    gi_wp2_with fail
    have Al:Below B w ((W2.setCell ⟨B,0,none⟩ (.slice none 0 0)).setCell ⟨B+1,0,none⟩ (.int .i64 2)):=(Ak.setCell (Ab _) _).setCell (by simp) _;have p0:Blk ((W2.setCell ⟨B,0,none⟩ (.slice none 0 0)).setCell ⟨B+1,0,none⟩ (.int .i64 2)) B #[.slice none 0 0] 27:=(t0.set (.slice none 0 0)).other (by omega) _;have p1:Blk ((W2.setCell ⟨B,0,none⟩ (.slice none 0 0)).setCell ⟨B+1,0,none⟩ (.int .i64 2)) (B+1) #[.int .i64 2] 48:=(t1.other (by omega) _).set (.int .i64 2);obtain⟨W3,Cn⟩:=Ae ((W2.setCell ⟨B,0,none⟩ (.slice none 0 0)).setCell ⟨B+1,0,none⟩ (.int .i64 2));rw[Cn]at Al p0 p1 ⊢;have e0:=p0.one.1;have e1:=p1.one.1;refine⟨.tuple #[.slice none 0 0,.int .i64 2],?_,.slice none 0 0,?_,?_,Al⟩
    ·simp[results,Tryz.results10,go_sem,e0,e1]
    ·rw[Om.out]
    ·rw[Om.out];exact Oo.nil _ _
   | true =>
    gi_wp2_with fail
    refine⟨⟨k+1,by omega,by go_num,t0,t1,Ak,by omega,Aa fun i hi=>?_⟩,by simp[intOf];omega⟩
    by_cases P3:i=k
    ·rw[P3,eT.out];exact HR.out
    ·exact HF.out i (by omega)
  ·obtain rfl:k=n:=by omega
   have Ld:Hid (l.all Tf=true):=Aa (by
    rw[List.all_eq_true];intro a ha
    obtain⟨j,hj,rfl⟩:=List.mem_iff_getElem.1 ha;have := HF.out j (by have := HN.out;omega)
    rwa[Ac hj]at this)
   clear q0 q1 Ov Ol;have jM:Below B w (wr.alloc (.cells #[.slice none 0 0] 27)):=Bb.alloc (by omega) _;have ql4:ScW B wr.heap.size w [] (wr.alloc (.cells #[.slice none 0 0] 27)):=⟨⟨_,Blk.new wr _ _,Oo.nil _ _⟩,⟨fun s h=>(by cases h),by simp⟩,r0.alloc _,r1.alloc _,jM,Fh,by simp⟩;obtain⟨D,hD⟩:=Ae wr.heap.size;rw[hD]at ql4;obtain⟨WD,qjh⟩:=Ae (wr.alloc (.cells #[.slice none 0 0] 27));rw[qjh]at ql4;have HD:=Aa hD;have zgy:=Aa qjh;clear hD qjh jM r0 r1 Bb Fh HF;gi_wp2_with fail
   simp only[HD.out];rw[zgy.out];refine wpIn_loop (fun a' W=>∃ (j:Nat) (l2:List Sc) (ds:List Deferred) (u5 u8 u14 u15 u16 u17 u18 u19 u20 u24 u25 u26 u27 u28 u62:Value),j<=k/\Hid (Mh [] (tsL (l.take j))=some l2)/\ScW B D w l2 W/\Hid (Ni (B+2) W.heap.size W ds)/\a'={ tmps:=#[.slice va k vcap,undef,.pointer (some ⟨B,0,none⟩),.pointer (some ⟨B+1,0,none⟩),undef,u5,.pointer (some ⟨D,0,none⟩),undef,u8,undef,undef,.slice va k vcap,.int .i64 k,.int .i64 k,u14,u15,u16,u17,u18,u19,u20,.slice va k vcap,.int .i64 k,.int .i64 j,u24,u25,u26,u27,u28,undef,undef,undef,undef,undef,undef,undef,undef,undef,undef,undef,undef,undef,undef,undef,undef,undef,undef,undef,undef,undef,undef,undef,undef,undef,undef,undef,undef,undef,undef,undef,undef,undef,u62,undef],defers:=ds }) (fun a' _=>k-(intOf (a'.tmps.getD 23 undef)).toNat) ?_ ?_
   ·exact⟨0,[],[],_,_,_,_,_,_,_,_,_,_,_,_,_,_,_,Nat.zero_le _,Aa rfl,ql4,Aa (Ni.nil _ _ _),rfl⟩
   rintro a' wr ⟨j,l2,ds,u5,u8,u14,u15,u16,u17,u18,u19,u20,u24,u25,u26,u27,u28,u62,hj,HT,hS,iW,rfl⟩;have Hc:(k:Int)=k:=rfl
   by_cases Aj:j<k
   ·obtain⟨b,o,cap,he,_,Fl,Cj,hc⟩:=HV.out.pos (by omega)
    simp only[Value.slice.injEq,true_and]at he;obtain⟨rfl,rfl⟩:=he;have qkn:=hS.lt;have zbu:=hS.sz;obtain⟨k0,k1,k2,k3,k4,k5,k6,k7,k8⟩:=N3 (Km hS.bel (by omega) hc) Aj;obtain⟨ek,Ly⟩:∃ ek,l[j]?=some ek:=⟨_,Ac (by rw[HN.out];exact Aj)⟩;have hq:=HX.out j ek Ly;have U1:=List.mem_of_getElem? Ly
    have M6:Pg ek:=⟨HG.out ek U1,by
     have := List.all_eq_true.1 Ld.out ek U1;unfold Tf at this;simp only[Bool.and_eq_true,decide_eq_true_eq]at this
     exact this.1⟩
    obtain⟨y,hy⟩:=Ae (g j);rw[hy]at hq k0 k1 k2 k3 k4 k5 k6 k7 k8
    have zb3:b<wr.heap.size:=by omega
    have Pa:Hid (tsL (l.take (j+1))=tsL (l.take j)++Sa ek):=Aa (qw2 l j ek Ly);have ze2:Hid (tsL l=tsL (l.take j)++(Sa ek++tsL (l.drop (j+1)))):=Aa (qy3 l j ek Ly);have HQ:=Aa hq;have znq:=Aa M6;have qa9:=Aa hS;obtain⟨W0,J0⟩:=Ae ((wr.alloc (.cells y.cells 43)).alloc (.cells y.cells 43))
    have iO:wr.grownBy W0 none:=by rw[<- J0];exact(World.grownBy_alloc wr _ none).trans (World.grownBy_alloc _ _ none)
    have zrz:W0.heap.size=wr.heap.size+2:=by rw[<- J0];simp
    have H8:Blk W0 (wr.heap.size+1) y.cells 43:=by
     rw[<- J0];have := Blk.new (wr.alloc (.cells y.cells 43)) y.cells 43;rwa[World.size_alloc]at this
    have zd6:=Aa J0;clear hy hc hq Ly U1 M6 hS J0;gi_wp2_with fail
    refine⟨trivial,callsIn_wide.2 ((zv2 y _).mono ?_)⟩;rintro en w' ⟨rfl,rfl⟩;clear k0 k1 k2 k3 k4 k5 k6 k7 k8;gi_wp2_with fail
    rw[show(wr.alloc (.cells #[.int .u8 y.op,S y.nm,.int .u8 y.kd,.bool y.b3,.slice y.s4.a y.s4.n y.s4.m,.bool y.b5,.slice y.s6.a y.s6.n y.s6.m,.int .i64 y.i7,.slice y.s8.a y.s8.n y.s8.m] 43)).alloc (.cells y.cells 43)=W0 from zd6.out];obtain⟨s0,qyl⟩:=Ae wr.heap.size;simp only[qyl]at zrz H8 zbu zb3 ⊢;have qdy:=iW.out;rw[qyl]at qdy;have aA:=Aa qdy;clear qdy iW;have bL:ScW B D w l2 W0:=qa9.out.kept iO (fun q e=>by cases e);have Gp:=aA.out.kept iO (fun q e=>by cases e)
    refine qp9 (gf:=55) (fi:=#[]) (lb:=#[.pointer (some ⟨s0+1,0,none⟩)]) rfl (enters_of Tryz.func55 (by kernel_rfl) rfl) (znw K (s0+1) Pg zgf ek y) (fun _=>rfl)
     (fun pre W=>∃ l3,Mh l2 (pre.map Prod.fst)=some l3/\ScW B D w l3 W/\Ni (B+2) s0 W ds)
     (fun c pre W=>c=.ret/\Mh l2 (pre.map Prod.fst)=none/\ScE B w W/\Ni (B+2) s0 W ds)
     (fun pre x a1 W=>(∃ l3,Mh l2 (pre.map Prod.fst)=some l3/\ScW B D w l3 W/\Ni (B+2) s0 W ds)/\TqX K W x.1 x.2/\iC x.1/\∃ Bx,s0+2<=Bx/\Blk W Bx x.2.cells 79 ∧
      a1={ tmps:=#[.slice (some ⟨b,o,none⟩) k vcap,undef,.pointer (some ⟨B,0,none⟩),.pointer (some ⟨B+1,0,none⟩),undef,u5,.pointer (some ⟨D,0,none⟩),undef,.pointer (some ⟨s0,0,none⟩),.pointer (some ⟨Bx,0,none⟩),undef,.slice (some ⟨b,o,none⟩) k vcap,.int .i64 k,.int .i64 k,u14,u15,u16,u17,u18,u19,u20,.slice (some ⟨b,o,none⟩) k vcap,.int .i64 k,.int .i64 j,.bool true,.pointer (some ⟨b,o+j*9,none⟩),y.agg,y.agg,.func (.func 55) #[] #[.pointer (some ⟨s0+1,0,none⟩)],x.2.agg,undef,undef,undef,undef,undef,undef,undef,undef,undef,undef,undef,undef,undef,undef,undef,undef,undef,undef,undef,undef,undef,undef,undef,undef,undef,undef,undef,undef,undef,undef,undef,undef,u62,undef],defers:=[] })
     ?hSt ?hI ?hIx ?hA ?hS ?hSp ?hISt ?hIxSt ?hKt ?hKb ?h0 ?hPre ?hassign ?hbody ?hdone ?hstop
    case hSt=>exact fun A C _ hg=>KeepsFrom.of_grownBy hg (fun j e=>by cases e)
    case hI =>
     rintro s W l o o' ⟨l3,h1,h2,h3⟩ Bt hl ho;exact⟨l3,h1,h2.kept (grownBy_putObj' W l o') (fun q e=>by cases e;exact⟨by omega,fun o2 h2=>by rw[hl]at h2;cases h2;exact ho⟩),h3.kept (grownBy_putObj' W l o') (fun q e=>by cases e;exact .inl (by omega))⟩
    case hIx =>
     rintro c s W l o o' ⟨h0,h1,h2,h3⟩ Bt hl ho;exact⟨h0,h1,h2.kept (grownBy_putObj' W l o') (fun q e=>by cases e;exact⟨by omega,fun o2 h2=>by rw[hl]at h2;cases h2;exact ho⟩),h3.kept (grownBy_putObj' W l o') (fun q e=>by cases e;exact .inl (by omega))⟩
    case hA =>
     rintro s x a1 W l o o' ⟨⟨l3,h1,h2,h3⟩,h4,h5,Bx,h6,h7,h8⟩ Bt hl ho;refine⟨⟨l3,h1,h2.kept (grownBy_putObj' W l o') (fun q e=>by cases e;exact⟨by omega,fun o2 h2=>by rw[hl]at h2;cases h2;exact ho⟩),h3.kept (grownBy_putObj' W l o') (fun q e=>by cases e;exact .inl (by omega))⟩,h4.grown (qwx (by omega)),h5,Bx,h6,h7.kept (grownBy_putObj' W l o') (fun e=>?_),h8⟩;cases e
     unfold Blk at h7;rw[hl]at h7;cases h7;simp[Obj.isCells]at ho
    case hS=>exact fun s W l o o' h _ _ _=>h
    case hSp=>exact fun s W l o o' h _ _ _=>h
    case hISt=>exact fun s A C ⟨l3,h1,h2,h3⟩ hg=>⟨l3,h1,h2.kept hg (fun q e=>by cases e),h3.kept hg (fun q e=>by cases e)⟩
    case hIxSt=>exact fun c s A C ⟨h0,h1,h2,h3⟩ hg=>⟨h0,h1,h2.kept hg (fun q e=>by cases e),h3.kept hg (fun q e=>by cases e)⟩
    case hKt=>exact fun A B C h1 h2=>KpG.trans h1 h2
    case hKb=>exact fun W l o o' Bt hl ho=>KpG.putObj (by omega) hl ho
    case h0 =>
     intro o o'
     exact⟨l2,rfl,(bL.kept (World.grownBy_alloc _ o none) (fun q e=>by cases e)).kept (World.grownBy_alloc _ o' none) (fun q e=>by cases e),(Gp.kept (World.grownBy_alloc _ o none) (fun q e=>by cases e)).kept (World.grownBy_alloc _ o' none) (fun q e=>by cases e)⟩
    case hPre =>
     intro o o'
     have hb:Below B w ((W0.alloc o).alloc o'):=(bL.bel.alloc (by omega) o).alloc (by simp;omega) o';exact⟨by simp;omega,(H8.alloc _).alloc _,HQ.out.below hb hK (Ab _),znq.out⟩
    case hassign =>
     intro i pre x W ⟨l3,h1,h2,h3⟩ hx Aj
     have Ck:x.2.cut.s1.oneCell'=true/\x.2.cut.s2.oneCell'=true:=by
      obtain⟨_,_,e1,_⟩:=hx.1.cut.n.form;obtain⟨_,_,e2,_⟩:=hx.1.cut.d.form;rw[e1,e2];exact⟨rfl,rfl⟩
     have rH:=qlz x.2 Ck.1 Ck.2;obtain⟨a0,vP,zt3,Yj⟩:∃ a0,a0=x.1/\True/\∃ a,Pg a/\x.1=Ec a:=⟨_,rfl,trivial,hx.2⟩;obtain⟨a,bI,nK⟩:=Yj
     have Yu:iC x.1:=by rw[nK];exact qo2 bI.1 bI.2
     have oX:=hx.1;clear hx Ck vP zt3 nK bI;dsimp only[qbj]
     iterate 5 gi_step
     refine znn rfl 79 79 (.tmp 9) (.tmp 29) rfl x.2.cells _ W.heap.size (Blk.new W _ _) Zk rfl rH rfl rfl ?_;intro W5 eR t1 t2 t3 t4
     rw[World.setRow_alloc_new]at eR;subst eR;gi_wp2
     exact⟨(KeepsOthers.alloc _ _).from _,KpG.grown (World.grownBy_alloc W _ none) (by omega) (fun r e=>by cases e),⟨l3,h1,h2.kept (World.grownBy_alloc W _ none) (fun q e=>by cases e),h3.kept (World.grownBy_alloc W _ none) (fun q e=>by cases e)⟩,
      oX.grown (Sq (World.grownBy_alloc W _ none) (fun r e=>by cases e) (by omega)),Yu,W.heap.size,by omega,Blk.new W _ _,rfl⟩
    case hbody =>
     rintro i pre x a1 W ⟨⟨l3,h1,h2,h3⟩,oX,Yu,Bx,jaw,Bg,rfl⟩;obtain⟨v3,Hq,Av⟩:=h2.v;have jI:=Av.read;obtain⟨sa,sc,fQ,Uy,ja8⟩:=jI.form;subst fQ;have zxm:D+1<=W.heap.size:=h2.sz
     have zzq:B<=W.heap.size:=by omega
     have zzy:s0+2<=W.heap.size:=by have := Bg.lt;omega
     have c4:=Hq.one.1;have qV:=qsi W.heap.size x.1 x.2 _ l3 W (oX.below (Below.refl K W) (Ab _) (by omega)) jI (Ab _);have H1:=Aa h1;have H2:=Aa h2;have H3:=Aa h3;have Zd:=Aa oX;have Xy:=Aa Yu;have gF:=Aa Bg;have D9:=Aa Hq;have Hi:=Aa Av;clear h1 h2 h3 oX Yu jI Av Hq
     iterate 3 gi_step
     iterate 4 gi_step
     refine zw2 rfl 79 (.tmp 9) rfl x.2.cells Bx 79 _ gF.out Tryz.underlying79 rfl Zk rfl ?_;gi_wp2_with fail
     refine⟨trivial,CallsIn.inRound i (callsIn_wide.2 (qV.mono ?_))⟩;rintro en W2 ⟨rfl,Ai⟩;clear qV c4;dsimp only
     iterate 8 gi_step
     rename_i K19 a19
     have zfg:∀ W',Below K W W'->TqX K W' x.1 x.2:=fun W' h=>Zd.out.grown h
     have key:∀ (l4:List Sc) (m:Nat) (W3:World) (z30 z31 z32 z33 z34 z35 z36 z37 z38 z39 z40 z41 z42 z43 z44 z45 z46 z47 z48 z49:Value),m<l4.length->(l4[m]?.getD default).kd=x.1.kd->Sn l4 m x.1=So l3 x.1->ScW B D w l4 W3->Rn K (s0+2) W W3->Ni (B+2) s0 W3 ds->Blk W3 Bx x.2.cells 79 →
       K19 { tmps:=#[.slice (some ⟨b,o,none⟩) k vcap,undef,.pointer (some ⟨B,0,none⟩),.pointer (some ⟨B+1,0,none⟩),undef,u5,.pointer (some ⟨D,0,none⟩),undef,.pointer (some ⟨s0,0,none⟩),.pointer (some ⟨Bx,0,none⟩),.int .i64 m,.slice (some ⟨b,o,none⟩) k vcap,.int .i64 k,.int .i64 k,u14,u15,u16,u17,u18,u19,u20,.slice (some ⟨b,o,none⟩) k vcap,.int .i64 k,.int .i64 j,.bool true,.pointer (some ⟨b,o+j*9,none⟩),y.agg,y.agg,.func (.func 55) #[] #[.pointer (some ⟨s0+1,0,none⟩)],x.2.agg,z30,z31,z32,z33,z34,z35,z36,z37,z38,z39,z40,z41,z42,z43,z44,z45,z46,z47,z48,z49,undef,undef,undef,undef,undef,undef,undef,undef,undef,undef,undef,undef,u62,undef],defers:=[] } W3:=by
      intro l4 m W3 z30 z31 z32 z33 z34 z35 z36 z37 z38 z39 z40 z41 z42 z43 z44 z45 z46 z47 z48 z49 hm Fs fA Fc gP qat Al
      refine a19 _ _ ?_;clear a19
      have Vu:Mh l2 ((pre++[x]).map Prod.fst)=Sn l4 m x.1:=by
       rw[List.map_append,List.map_singleton,qsc,H1.out,fA];rfl
      have Y4:=Aa Vu;obtain⟨v4,qgs,ys,F,Tg⟩:=Fc.v;have aW:=qgs.one.1;have Wh:=Zd.out.kd;have dX:=(zfg W3 gP.kp.1)
      by_cases Yx:x.1.kd=0
      ·have On:(x.2.kd != 0)=false:=by rw[Wh,Yx];rfl
       have Gf:=Vu.trans (zw9 Yx);have Pu:=Aa Gf;have uJ:=Aa Tg;clear Gf Vu fA Fs Wh Yx qgs aW dX Tg;gi_step
       refine qi2 (fun W'=>Blk W' Bx x.2.cells 79) [] (by kernel_rfl) (by kernel_rfl) (by rintro⟨_,_,h⟩;exact h) ?_;have qS:(fun W':World=>Blk W' Bx x.2.cells 79) W3.drew:=Al;refine Am (i:=0) (v:=.pointer (some ⟨Bx,9,none⟩)) rfl qS ?_;refine Ar (i:=1) (v:=.int .u8 x.2.kd) rfl (.inl ⟨by kernel_rfl,fun W' hS=>by have d:W'.cell? ⟨Bx,9,none⟩=some (.int .u8 x.2.kd):=Blk.at hS rfl;go_simp⟩) qS ?_;refine Am (i:=2) (v:=.bool false) rfl qS ?_;refine Am (i:=3) (v:=.bool false) rfl qS ?_;refine Ar (i:=4) (v:=undef) rfl (.inr ⟨by kernel_rfl,rfl⟩) qS ?_;refine Ar (i:=5) (v:=undef) rfl (.inr ⟨by kernel_rfl,rfl⟩) qS ?_;refine Ar (i:=6) (v:=undef) rfl (.inr ⟨by kernel_rfl,rfl⟩) qS ?_;refine Ar (i:=7) (v:=undef) rfl (.inr ⟨by kernel_rfl,rfl⟩) qS ?_;refine Ar (i:=8) (v:=undef) rfl (.inr ⟨by kernel_rfl,rfl⟩) qS ?_;refine Ar (i:=9) (v:=undef) rfl (.inr ⟨by kernel_rfl,rfl⟩) qS ?_;refine Ar (i:=10) (v:=undef) rfl (.inr ⟨by kernel_rfl,rfl⟩) qS ?_;refine Am (i:=11) (v:=.bool false) rfl qS ?_;refine Eo (by kernel_rfl) ?_ _;go_simp
       gi_wp2_with fail
       have Ug:=gP.trans (Rn.grown (s:=s0+2) (ql0 W3) (by have := gP.kp.1.size;omega) (fun r e=>by cases e));exact⟨Ug.kf,Ug.kp,l4,Pu.out,Fc.kept (ql0 W3) (fun q e=>by cases e),qat.kept (ql0 W3) (fun q e=>by cases e)⟩
      ·have On:(x.2.kd != 0)=true:=by rw[Wh];simp[Yx]
       have zp4:m<ys.length:=by rw[Tg.len];exact hm
       have Tb:(ys.map fun y=>y.cells.toList).length=l4.length:=by rw[List.length_map,Tg.len]
       have Cx:=Tg.own.1.2;rw[Tb]at Cx
       rcases Cx with⟨_,h0⟩ | ⟨sb,cap4,cur4,qbv,Hw,qsy,jb2,zzt,zkw,zqy⟩
       ·omega
       subst qbv;have Oi:Blk W3 sb cur4 46:=qsy;obtain⟨zs,Gb,Ft,Od⟩:=Tg.cut m hm
       have qza:=(Tg.cut m hm).read fun b hb=>(Tg.rng b hb).2
       obtain⟨b',o',cap',qub,_,_,_,Ba⟩:=Tg.own.rows.pos (by rw[Tb];omega);simp only[Value.slice.injEq,Option.some.injEq,Addr.mk.injEq,and_true]at qub;obtain⟨⟨rfl,rfl⟩,zhu,rfl⟩:=qub;clear zhu;have Gw:=Ba m (by rw[Tb];exact hm) 10 (by omega)
       have rP:(ys.map fun y=>y.cells.toList)[m]?=some (ys[m]?.getD sv0).cells.toList:=by rw[List.getElem?_map,Ac zp4];rfl
       rw[rP,Nat.zero_add]at Gw;have qii:W3.cell? ⟨sb,m*11+10,none⟩=some (ys[m]?.getD sv0).c.val:=Gw;have wK:=Fc.ok.each _ (by rw[Ac hm];exact List.getElem_mem hm:(l4[m]?.getD default)∈l4);obtain⟨cg,co,ck⟩:=Xy.out.cut Yx;have qil:(ys[m]?.getD sv0).c.val.ownBlock≠some sb:=qae Tg.own Ft (by decide) rfl
       have qbt:K<=W3.heap.size:=by have := gP.kp.1.size;omega
       have Ik:=zoq W3.heap.size (D+1) sb (m*11) _ _ x.1.kd x.1.cut x.2.cut _ W3.drew (qza.below (Er (Below.refl W3.heap.size W3)) (Ab _) (Ab _)) (Ft.moveEq fun _ _=>rfl) (by rw[List.length_map,Gb]) (dX.cut.below (Er (Below.refl K W3)) (Ab _) qbt) cg co ck (by rw[<- Fs];exact wK.cuts) wK.len (Ab _) (by have := Fc.sz;exact this) qii (Oi.free _) qil;have uJ:=Aa Tg;have R9:=Aa Ft;have G4:=Aa Od;have yS:=Aa aW;have zat:=Aa wK;have jR:=Aa Fs;have nS:=Aa fA;have Px:=Aa Yx;have zx7:=Aa qii;have jan:=Aa Gw;have Xi:=Aa Oi;have zde:=Aa qil
       have Ir:m*11<l4.length*11:=by omega
       have zzu:(m:Int)<(l4.length:Int):=by omega
       clear Vu fA Fs Wh Yx Tg Ft Od qza Ba Gw qii wK cg co ck qil Tb qsy Oi zkw zqy aW dX rP;have qjn:=Xi.out.lt;gi_step
       refine qi2 (fun W'=>W'.cell? ⟨D,0,none⟩=some (.slice (some ⟨sb,0,none⟩) l4.length cap4)/\Blk W' Bx x.2.cells 79) [] (by kernel_rfl) (by kernel_rfl) (by rintro⟨_,_,h⟩;exact h) ?_;have qS:(fun W':World=>W'.cell? ⟨D,0,none⟩=some (.slice (some ⟨sb,0,none⟩) l4.length cap4)/\Blk W' Bx x.2.cells 79) W3.drew:=⟨yS.out,Al⟩;refine Am (i:=0) (v:=.pointer (some ⟨Bx,9,none⟩)) rfl qS ?_;refine Ar (i:=1) (v:=.int .u8 x.2.kd) rfl (.inl ⟨by kernel_rfl,fun W' hS=>by have d:W'.cell? ⟨Bx,9,none⟩=some (.int .u8 x.2.kd):=Blk.at hS.2 rfl;go_simp⟩) qS ?_;refine Am (i:=2) (v:=.bool true) rfl qS ?_;refine Am (i:=3) (v:=.bool true) rfl qS ?_;refine Ar (i:=4) (v:=.slice (some ⟨sb,0,none⟩) l4.length cap4) rfl (.inl ⟨by kernel_rfl,fun W' hS=>by have d:=hS.1;go_simp⟩) qS ?_;refine Am (i:=5) (v:=.int .i64 m) rfl qS ?_;refine Am (i:=6) (v:=.pointer (some ⟨sb,m*11,none⟩)) rfl qS ?_;refine Am (i:=7) (v:=.pointer (some ⟨Bx,10,none⟩)) rfl qS ?_;refine Ar (i:=8) (v:=x.2.cut.agg) rfl (.inl ⟨by kernel_rfl,fun W' hS=>by have d0:W'.cell? ⟨Bx,10,none⟩=some (.int .u8 x.2.cut.kd):=Blk.at hS.2 rfl;have d1:W'.cell? ⟨Bx,11,none⟩=some (.bool x.2.cut.b1):=Blk.at hS.2 rfl;have d2:W'.cell? ⟨Bx,12,none⟩=some x.2.cut.s1:=Blk.at hS.2 rfl;have d3:W'.cell? ⟨Bx,13,none⟩=some (.bool x.2.cut.b2):=Blk.at hS.2 rfl;have d4:W'.cell? ⟨Bx,14,none⟩=some x.2.cut.s2:=Blk.at hS.2 rfl;have d5:W'.cell? ⟨Bx,15,none⟩=some (.int .i64 x.2.cut.i):=Blk.at hS.2 rfl;go_simp⟩) qS ?_;refine Ap (i:=9) rfl ?_;go_simp
       refine Ik.mono ?_;clear Ik
       have gT:D<W3.heap.size:=by have := Fc.sz;omega
       have mZ:Bx<W3.heap.size:=Al.lt
       have zx2:K<=s0:=by omega
       rintro en w6 (⟨hn,rfl,Bk⟩ | ⟨hf,rfl,Bk⟩ | ⟨hf,M7,rfl,z,cv',W5,gg,hi,rfl,oJ,Bo,Pt,Kx,Ny,K6,Bq⟩)
       ·have G3:Below W3.heap.size W3 w6:=(Er (Below.refl W3.heap.size W3)).trans Bk
        have Gf:Mh l2 ((pre++[x]).map Prod.fst)=none:=Y4.out.trans (zr5 Px.out hn);have Pu:=Aa Gf;have Fk:=Fc.kept (Rj G3) (fun q e=>by cases e);have Zr:=gP.trans (Rn.below (s:=s0+2) G3 qbt);have X6:=qat.kept (Rj G3) (fun q e=>by cases e);obtain⟨e1,e2,e3⟩:=Fk.err;have q6:w6.cell? ⟨D,0,none⟩=some (.slice (some ⟨sb,0,none⟩) l4.length cap4)/\Blk w6 Bx x.2.cells 79:=⟨(G3.cell (p:=⟨D,0,none⟩) gT).trans yS.out,Al.below G3 mZ⟩;have c0:=Fk.r0.one;have c1:=Fk.r1.one;obtain⟨c00,c01⟩:=c0;obtain⟨c10,c11⟩:=c1;have Xw:=Aa e1;have bS:=Aa (e2 K (s0+2) (by omega));have gM:=Aa (e3 _ _ _ X6);have cC:=Aa Zr;clear hn Gf e1 e2 e3 X6 Zr Fk;refine⟨q6,?_⟩;refine Am (i:=10) (v:=.bool true) rfl q6 ?_;refine Am (i:=11) (v:=.bool true) rfl q6 ?_;refine Eo (by kernel_rfl) ?_ _;go_simp
        gi_wp2_with fail
        exact⟨(cC.out.trans bS.out).kf,(cC.out.trans bS.out).kp,rfl,Pu.out,Xw.out,gM.out⟩
       ·have G3:Below W3.heap.size W3 w6:=(Er (Below.refl W3.heap.size W3)).trans Bk
        have C8:Zz (l4[m]?.getD default).cuts x.1.cut=some (l4[m]?.getD default).cuts:=by unfold Zz;rw[hf];rfl
        have Gf:Mh l2 ((pre++[x]).map Prod.fst)=some l4:=by rw[Y4.out,qyp Px.out C8,zra hm]
        have Pu:=Aa Gf;have Zr:=gP.trans (Rn.below (s:=s0+2) G3 qbt);have q6:w6.cell? ⟨D,0,none⟩=some (.slice (some ⟨sb,0,none⟩) l4.length cap4)/\Blk w6 Bx x.2.cells 79:=⟨(G3.cell (p:=⟨D,0,none⟩) gT).trans yS.out,Al.below G3 mZ⟩;have cC:=Aa Zr;have aF:=Aa (Fc.kept (Rj G3) (fun q e=>by cases e));have qh4:=Aa (qat.kept (Rj G3) (fun q e=>by cases e));clear hf C8 Gf Zr;refine⟨q6,?_⟩;refine Am (i:=10) (v:=.bool false) rfl q6 ?_;refine Am (i:=11) (v:=.bool false) rfl q6 ?_;refine Eo (by kernel_rfl) ?_ _;go_simp
        gi_wp2_with fail
        exact⟨cC.out.kf,cC.out.kp,l4,Pu.out,aF.out,qh4.out⟩
       ·have Hn:W3.grownBy W5 (ys[m]?.getD sv0).c.val.ownBlock:=⟨Bo.os,Bo.tape,Bo.output,Bo.size,Bo.block⟩
        obtain⟨va,vn,qz8,_⟩:=oJ.form;obtain⟨cl,Ba⟩:∃ cl:Sl,cv'=cl.val:=⟨⟨va,_,vn⟩,qz8⟩;subst Ba
        have C8:Zz (l4[m]?.getD default).cuts x.1.cut=some ((l4[m]?.getD default).cuts.take (Eu (l4[m]?.getD default).cuts x.1.cut)++x.1.cut::(l4[m]?.getD default).cuts.drop (Eu (l4[m]?.getD default).cuts x.1.cut)):=by
         unfold Zz;rw[hf,if_neg M7];rfl
        have qgu:=qyp Px.out C8;have Gf:=Y4.out.trans qgu;have qzx:=zib H2.out.ok Xy.out (nS.out.symm.trans qgu);have Qu:=uJ.out.ins hm (wB _ _) Gb R9.out G4.out oJ Hn Pt Kx Ny K6 Bq (by have := Fc.sz;omega)
        have Hv:∀ r,(ys[m]?.getD sv0).c.val.ownBlock=some r->D+1<=r:=fun r hr=>R9.out.low hr
        have oC:∀ b,b<W3.heap.size->(ys[m]?.getD sv0).c.val.ownBlock≠some b->b≠sb->(W5.setCell ⟨sb,m*11+10,none⟩ cl.val).heap[b]?=W3.heap[b]? := fun b hb At hs=>(Below.heap_setCell _ _ _ _ hs).trans (Hn.block b hb (fun e=>At e.symm))
        have jM:(W5.setCell ⟨sb,m*11+10,none⟩ cl.val).heap[D]?=W3.heap[D]? := oC D gT (fun e=>by have := Hv D e;omega) (by omega)
        have zc0:(ys[m]?.getD sv0).c.val.ownBlock≠some Bx:=fun e=>by
         obtain⟨_,h9⟩:=R9.out.blk e;exact absurd (h9.ty_ne Al) (by decide)
        have zi2:Bx≠sb:=fun e=>by
         subst e;exact absurd (Xi.out.ty_ne Al) (by decide)
        have uQ:(W5.setCell ⟨sb,m*11+10,none⟩ cl.val).heap[Bx]?=W3.heap[Bx]? := oC Bx mZ zc0 zi2;have qg2:Blk W5 sb cur4 46:=Xi.out.kept Hn (fun e=>zde.out e.symm);have Va:Below D W3 (W5.setCell ⟨sb,m*11+10,none⟩ cl.val):=(Sq Hn (fun r e=>by have := Hv r e;omega) (by omega)).setCell (by show D<=sb;omega) _;have q6:(W5.setCell ⟨sb,m*11+10,none⟩ cl.val).cell? ⟨D,0,none⟩=some (.slice (some ⟨sb,0,none⟩) l4.length cap4)/\Blk (W5.setCell ⟨sb,m*11+10,none⟩ cl.val) Bx x.2.cells 79:=⟨(World.cell?_of_block (w:=W3) (a:=⟨D,0,none⟩) jM).trans yS.out,uQ.trans Al⟩
        have Zr:Rn K (s0+2) W (W5.setCell ⟨sb,m*11+10,none⟩ cl.val):=(gP.trans (Rn.grown Hn qbt (fun r e=>by
         obtain⟨cc,h9⟩:=R9.out.blk e
         exact⟨by have := Hv r e;omega,cc,_,h9,by decide⟩))).trans (Rn.grown (Fm W5 sb (m*11+10) cl.val) (by have := Hn.size;omega) (fun r e=>by cases e;exact⟨by omega,cur4,_,qg2,by decide⟩))
        have X6:Ni (B+2) s0 (W5.setCell ⟨sb,m*11+10,none⟩ cl.val) ds:=(qat.kept Hn (fun q e=>.inr fun o ho=>by
         obtain⟨cc,h9⟩:=R9.out.blk e
         unfold Blk at h9;rw[h9]at ho;cases ho;rfl)).kept (Fm W5 sb (m*11+10) cl.val) (fun q e=>.inr fun o ho=>by
         cases e
         have h9:=qg2
         unfold Blk at h9;rw[h9]at ho;cases ho;rfl)
        have Fk:=Fc.turn Va (jM.trans qgs) ⟨_,_,Qu⟩ qzx;obtain⟨W6,qrl⟩:=Ae (W5.setCell ⟨sb,m*11+10,none⟩ cl.val);rw[qrl]at q6 Zr X6 Fk ⊢;have Pu:=Aa Gf;have cC:=Aa Zr;have aF:=Aa Fk;have qh4:=Aa X6;clear hf C8 Gf Zr Fk X6 Qu qzx qgu oC jM uQ qg2 Va Bo Hn oJ Pt Kx Ny K6 Bq qz8 Hv qrl;refine⟨q6,?_⟩;refine Am (i:=10) (v:=.bool false) rfl q6 ?_;refine Am (i:=11) (v:=.bool false) rfl q6 ?_;refine Eo (by kernel_rfl) ?_ _;go_simp
        gi_wp2_with fail
        exact⟨cC.out.kf,cC.out.kp,_,Pu.out,aF.out,qh4.out⟩
     have qu4:=Aa key;clear key a19
     have Qr:K<=W.heap.size:=by omega
     have I5:Rn K (s0+2) W W2:=Rn.below Ai Qr;have Ax:=H2.out.kept (Rj Ai) (fun q e=>by cases e);have eX:=H3.out.kept (Rj Ai) (fun q e=>by cases e);have tS:Blk W2 Bx x.2.cells 79:=Bg.below Ai Bg.lt;have Dz:Blk W2 D #[.slice sa l3.length sc] 27:=D9.out.below Ai (by omega);have jP:=Hi.out.move (zs3 (Rj Ai));have Kr:=Aa I5;have Im:=Aa Ax;have pD:=Aa eX;have Bz:=Aa tS;have Bw:=Aa Dz;have qa4:=Aa jP;have yT:=Ai.size;clear I5 Ax eX tS Dz jP
     by_cases hfi:l3.findIdx x.1.belongs<l3.length
     ·obtain⟨m,hm⟩:=Ae (l3.findIdx x.1.belongs)
      have Ke:Yo l3 x.1=(m:Int):=by unfold Yo;rw[if_pos hfi,hm]
      have Fs:=qfs (qcn hfi)
      have fA:Sn l3 m x.1=So l3 x.1:=by unfold So;simp only;rw[if_pos hfi,hm]
      rw[hm]at hfi Fs;have jR:=Aa Fs;have nS:=Aa fA;rw[Ke]
      have Yi:decide ((m:Int)<0)=false:=by simp
      clear hm Ke Fs fA;gi_wp2_with fail
      exact qu4.out l3 m W2 _ _ _ _ _ _ _ _ _ _ _ _ _ _ _ _ _ _ _ _ hfi jR.out.symm nS.out Im.out Kr.out pD.out Bz.out
     ·have Ke:Yo l3 x.1 = -1:=by unfold Yo;rw[if_neg hfi]
      have c4:=Bw.out.one.1;rw[Ke];clear Ke
      by_cases R2:l3.length=16
      ·have Gf:Mh l2 ((pre++[x]).map Prod.fst)=none:=by
        rw[List.map_append,List.map_singleton,qsc,H1.out]
        show So l3 x.1=none
        unfold So;simp only;rw[if_neg hfi,if_pos R2]
       have Pu:=Aa Gf
       have qne:((l3.length:Int)==16)=true:=by simp;omega
       obtain⟨e1,e2,e3⟩:=Im.out.err;have Xw:=Aa e1;have bS:=Aa (e2 K (s0+2) (by omega));have gM:=Aa (e3 _ _ _ pD.out);obtain⟨c00,c01⟩:=Im.out.r0.one;obtain⟨c10,c11⟩:=Im.out.r1.one;clear Gf e1 e2 e3 R2 hfi;gi_wp2_with fail
       exact⟨(Kr.out.trans bS.out).kf,(Kr.out.trans bS.out).kp,rfl,Pu.out,Xw.out,gM.out⟩
      ·have qne:((l3.length:Int)==16)=false:=by simp;omega
       have zcq:=Aa hfi;have qtf:=Aa R2;clear hfi R2;gi_wp2_with fail
       obtain⟨ys,F,hO⟩:=qa4.out
       have Uf:(ys.map fun y=>y.cells.toList).length=l3.length:=by rw[List.length_map,hO.len]
       have zzg:=Im.out.ok.len
       have gT:D<W2.heap.size:=by omega
       have mZ:Bx<W2.heap.size:=Bz.out.lt;have Gg:=zox W2.heap.size x.1.sub x.2.sub W2.drew (by have := Xy.out.big;omega) (Zd.out.sub.below (Er (Ai.mono Qr)) (Ab _) (by omega)) Xy.out.good (Ab _);have qht:=Aa hO;have Mt:=Aa Uf;clear c4 hO Uf qne;refine qi2 (fun W'=>W'.cell? ⟨D,0,none⟩=some (.slice sa l3.length sc)/\Blk W' Bx x.2.cells 79) [9] (by kernel_rfl) (by kernel_rfl) (by rintro⟨_,_,h⟩;exact h) ?_;have qS:(fun W':World=>W'.cell? ⟨D,0,none⟩=some (.slice sa l3.length sc)/\Blk W' Bx x.2.cells 79) W2.drew:=⟨Bw.out.one.1,Bz.out⟩;refine Nu [9,8] (i:=0) (v:=.slice sa l3.length sc) rfl (by kernel_rfl) (by kernel_rfl) (by kernel_rfl) (by kernel_rfl) (by kernel_rfl) (by kernel_rfl) (fun _ _ _ h=>h) (.inl ⟨by kernel_rfl,fun W' hS=>by have d:=hS.1;go_simp⟩) qS ?_;refine Nu [9,8,7,6,3,2] (i:=1) (v:=.pointer (some ⟨Bx,0,none⟩)) rfl (by kernel_rfl) (by kernel_rfl) (by kernel_rfl) (by kernel_rfl) (by kernel_rfl) (by kernel_rfl) (fun _ _ _ h=>h) (.inl ⟨by kernel_rfl,fun W' hS=>by go_simp⟩) qS ?_;refine Nu [9,8,7,6,3] (i:=2) (v:=x.2.sub.agg) rfl (by kernel_rfl) (by kernel_rfl) (by kernel_rfl) (by kernel_rfl) (by kernel_rfl) (by kernel_rfl) (fun _ _ _ h=>h) (.inl ⟨by kernel_rfl,fun W' hS=>by have d0:W'.cell? ⟨Bx,0,none⟩=some (.int .u8 x.2.sub.op):=Blk.at hS.2 rfl;have d1:W'.cell? ⟨Bx,1,none⟩=some (S x.2.sub.nm):=Blk.at hS.2 rfl;have d2:W'.cell? ⟨Bx,2,none⟩=some (.int .u8 x.2.sub.kd):=Blk.at hS.2 rfl;have d3:W'.cell? ⟨Bx,3,none⟩=some (.bool x.2.sub.b3):=Blk.at hS.2 rfl;have d4:W'.cell? ⟨Bx,4,none⟩=some (.slice x.2.sub.s4.a x.2.sub.s4.n x.2.sub.s4.m):=Blk.at hS.2 rfl;have d5:W'.cell? ⟨Bx,5,none⟩=some (.bool x.2.sub.b5):=Blk.at hS.2 rfl;have d6:W'.cell? ⟨Bx,6,none⟩=some (.slice x.2.sub.s6.a x.2.sub.s6.n x.2.sub.s6.m):=Blk.at hS.2 rfl;have d7:W'.cell? ⟨Bx,7,none⟩=some (.int .i64 x.2.sub.i7):=Blk.at hS.2 rfl;have d8:W'.cell? ⟨Bx,8,none⟩=some (.slice x.2.sub.s8.a x.2.sub.s8.n x.2.sub.s8.m):=Blk.at hS.2 rfl;go_simp⟩) qS ?_;refine Nu [9,8,7,6,5] (i:=4) (v:=.pointer (some ⟨Bx,9,none⟩)) rfl (by kernel_rfl) (by kernel_rfl) (by kernel_rfl) (by kernel_rfl) (by kernel_rfl) (by kernel_rfl) (fun _ _ _ h=>h) (.inl ⟨by kernel_rfl,fun W' hS=>by go_simp⟩) qS ?_;refine Nu [9,8,7,6] (i:=5) (v:=.int .u8 x.2.kd) rfl (by kernel_rfl) (by kernel_rfl) (by kernel_rfl) (by kernel_rfl) (by kernel_rfl) (by kernel_rfl) (fun _ _ _ h=>h) (.inl ⟨by kernel_rfl,fun W' hS=>by have d:W'.cell? ⟨Bx,9,none⟩=some (.int .u8 x.2.kd):=Blk.at hS.2 rfl;go_simp⟩) qS ?_;refine Ap (i:=3) rfl ?_;go_simp
       refine Gg.mono ?_;rintro en w3 ⟨ye,rfl,Od,Ak⟩;clear Gg;have fF:Below W2.heap.size W2 w3:=(Er (Below.refl W2.heap.size W2)).trans Ak;have q3:w3.cell? ⟨D,0,none⟩=some (.slice sa l3.length sc)/\Blk w3 Bx x.2.cells 79:=⟨(Ak.cell (p:=⟨D,0,none⟩) gT).trans qS.1,qS.2.below Ak mZ⟩;refine⟨q3,?_⟩;refine Ap (i:=6) rfl ?_;go_simp
       have Hz:=Aa q3;have Do:=Aa fF;have G4:=Aa Od;have Ep:=fF.size;clear q3 Od Ak fF qS;have qzn:Blk (w3.alloc (.cells (⟨ye,x.2.kd,⟨none,0,0⟩⟩:Sv).cells 46)) w3.heap.size (⟨ye,x.2.kd,⟨none,0,0⟩⟩:Sv).cells 46:=Blk.new w3 _ _;have Al:Below W2.heap.size W2 (w3.alloc (.cells (⟨ye,x.2.kd,⟨none,0,0⟩⟩:Sv).cells 46)):=Do.out.alloc Ep _;have q4:(w3.alloc (.cells (⟨ye,x.2.kd,⟨none,0,0⟩⟩:Sv).cells 46)).cell? ⟨D,0,none⟩=some (.slice sa l3.length sc)/\Blk (w3.alloc (.cells (⟨ye,x.2.kd,⟨none,0,0⟩⟩:Sv).cells 46)) Bx x.2.cells 79:=⟨(Below.cell ((Below.refl w3.heap.size w3).alloc (Ab _) _) (p:=⟨D,0,none⟩) (by show D<w3.heap.size;omega)).trans Hz.out.1,Hz.out.2.alloc _⟩;have Tz:=qht.out.own.old Al (Ab _)
       have Pz:Hid (∀ (i:Nat) (r:List Value) (j:Nat) (u:Value),[(⟨ye,x.2.kd,⟨none,0,0⟩⟩:Sv).cells.toList][i]?=some r->r[j]?=some u->(w3.alloc (.cells (⟨ye,x.2.kd,⟨none,0,0⟩⟩:Sv).cells 46)).cell? ⟨w3.heap.size,0+(i*11+j),none⟩=some u):=Aa fun i r j u hi hj=>zrt qzn hi hj
       have Ei:=Aa Al;have Io:=Aa q4;have Vm:=Aa qht.out.own
       have Hv:∀ r,(Value.slice sa l3.length sc).ownBlock=some r->D+1<=r/\r<W2.heap.size:=fun r hr=>⟨Vm.out.low hr,Vm.out.lt hr⟩
       have Pm:=Aa Hv;obtain⟨RS,Gz⟩:=Ae (ys.map (fun y=>y.cells.toList));rw[Gz]at Tz Mt;have Lw:=Aa Gz;clear qzn Al q4 Gz Hv;refine Ap (i:=7) rfl ?_;go_simp
       refine⟨Io.out,?_⟩;refine Ap (i:=8) rfl ?_;refine pV (.tmp 41) (.tmp 48) 27 rfl Tryz.underlying27 Tryz.infoScaleG (by kernel_rfl) (by decide) (by simp[Act.eval]) Tz (b:=w3.heap.size) (off:=0) (m:=1) (cap:=1) (ms:=[(⟨ye,x.2.kd,⟨none,0,0⟩⟩:Sv).cells.toList]) (by simp[Act.eval]) rfl (zxg _) Pz.out (by decide) (by rw[Mt.out];simp[maxLen];omega) (by rw[Mt.out];omega) (by simp;omega) ?_;intro g1 cap1 w5 Hh Bo Ie
       have Rt:∀ b,b<W2.heap.size->(Value.slice sa l3.length sc).ownBlock≠some b->w5.heap[b]?=W2.heap[b]? := fun b hb At=>(Bo.block b (by simp;omega) (fun e=>At e.symm)).trans (Ei.out.block b hb)
       have kN:(Value.slice sa l3.length sc).ownBlock≠some D:=fun e=>by have := (Pm.out D e).1;omega
       have Uj:(Value.slice sa l3.length sc).ownBlock≠some Bx:=fun e=>by
        obtain⟨_,h9⟩:=Vm.out.blk e;exact absurd (h9.ty_ne Bz.out) (by decide)
       have kY:Blk w5 D #[.slice sa l3.length sc] 27:=(Rt D gT kN).trans Bw.out;have qdb:Blk w5 Bx x.2.cells 79:=(Rt Bx mZ Uj).trans Bz.out;have Vn:W2.grownBy (w3.alloc (.cells (⟨ye,x.2.kd,⟨none,0,0⟩⟩:Sv).cells 46)) none:=Rj Ei.out;have bO:Zed (Btw W2.heap.size w3.heap.size) (w3.alloc (.cells (⟨ye,x.2.kd,⟨none,0,0⟩⟩:Sv).cells 46)) (fun K W=>ExG K W x.1.sub ye):=G4.out.move (bH ((Below.refl w3.heap.size w3).alloc (Ab _) _) fun b hb=>hb.2)
       have qte:(Value.slice sa l3.length sc).ownBlock=some g1\/w3.heap.size<=g1:=by
        rcases Ie with h | h
        ·exact .inl h
        ·refine .inr ?_
         have h9:g1=w3.heap.size+1:=by simpa [World.size_alloc] using h
         omega
       have zh9:(Value.slice sa l3.length sc).ownBlock=some g1\/W2.heap.size<=g1:=qte.imp id (fun h=>Nat.le_trans Ep h);have Qu:=qht.out.add Vn bO (Ab _) (by omega) (by simp) Bo (by rw[Lw.out];exact Hh) rfl qte zh9;rw[Zd.out.kd]at Qu;have Kg:=Bo.size;rw[World.size_alloc]at Kg;have kP:Oo (D+1) (w5.setCell ⟨D,0,none⟩ (.slice (some ⟨g1,0,none⟩) (RS.length+1) cap1)) (.slice (some ⟨g1,0,none⟩) (RS.length+1) cap1) (l3++[⟨x.1.sub,x.1.kd,[]⟩]):=(show Oo (D+1) w5 _ _ from⟨_,_,Qu⟩).move ⟨fun b o hb ho _=>(Below.heap_setCell _ _ _ _ (by show b≠D;omega)).trans ho,by simp[World.setCell]⟩;have Aq:Below D W2 w5:=(Ei.out.mono (by omega)).grown Bo (by simp;omega) (fun r hr=>by have := (Pm.out r hr).1;omega);have Bk:Below D W2 (w5.setCell ⟨D,0,none⟩ (.slice (some ⟨g1,0,none⟩) (RS.length+1) cap1)):=Aq.setCell (Ab _) _;have qx2:=zao Im.out.ok Xy.out qtf.out;have Fk:=Im.out.turn Bk (kY.set (i:=0) (.slice (some ⟨g1,0,none⟩) (RS.length+1) cap1)) kP qx2
       have Zr:Rn K (s0+2) W (w5.setCell ⟨D,0,none⟩ (.slice (some ⟨g1,0,none⟩) (RS.length+1) cap1)):=((Kr.out.trans (Rn.below Ei.out (by omega))).trans (Rn.grown Bo (by simp;omega) (fun r e=>by
        obtain⟨cc,h9⟩:=Vm.out.blk e
        exact⟨by have := (Pm.out r e).1;omega,cc,_,h9.below Ei.out (Pm.out r e).2,by decide⟩))).trans (Rn.grown (Fm w5 D 0 _) (by omega) (fun r e=>by cases e;exact⟨by omega,_,_,kY,by decide⟩))
       have X6:Ni (B+2) s0 (w5.setCell ⟨D,0,none⟩ (.slice (some ⟨g1,0,none⟩) (RS.length+1) cap1)) ds:=((pD.out.kept Vn (fun q e=>by cases e)).kept Bo (fun q e=>.inr fun o ho=>by
        obtain⟨cc,h9⟩:=Vm.out.blk e;have sJ:=h9.below Ei.out (Pm.out q e).2
        unfold Blk at sJ;rw[sJ]at ho;cases ho;rfl)).kept (Fm w5 D 0 _) (fun q e=>.inr fun o ho=>by
        cases e
        have h9:=kY
        unfold Blk at h9;rw[h9]at ho;cases ho;rfl)
       have qmw:Blk (w5.setCell ⟨D,0,none⟩ (.slice (some ⟨g1,0,none⟩) (RS.length+1) cap1)) Bx x.2.cells 79:=qdb.other (by omega) _
       have qvp:l3.length<(l3++[(⟨x.1.sub,x.1.kd,[]⟩:Sc)]).length:=by simp
       have qw0:((l3++[(⟨x.1.sub,x.1.kd,[]⟩:Sc)])[l3.length]?.getD default).kd=x.1.kd:=by simp
       have qq8:Sn (l3++[(⟨x.1.sub,x.1.kd,[]⟩:Sc)]) l3.length x.1=So l3 x.1:=by unfold So;simp only;rw[if_neg zcq.out,if_neg qtf.out]
       have znr:=Aa (show _/\_/\_/\_/\_/\_/\_ from⟨qvp,qw0,qq8,Fk,Zr,X6,qmw⟩);have c5:=kY.one.1;have f5:=kY.one.2;refine⟨fun _=>⟨c5,qdb⟩,?_⟩;clear qvp qw0 qq8 Fk Zr X6 qmw qx2 Bk Aq kP Qu bO Vn qdb kY Uj kN Rt Hh Bo Ie Tz;refine Ap (i:=9) rfl ?_;go_simp
       refine Eo (by kernel_rfl) ?_ _;go_simp
       obtain⟨y1,y2,y3,y4,y5,y6,y7⟩:=znr.out;exact qu4.out _ l3.length _ _ _ _ _ _ _ _ _ _ _ _ _ _ _ _ _ _ _ _ _ y1 y2 y3 y4 y5 y6 y7
    case hdone =>
     rintro D' xs W hD Sx ⟨l3,h1,h2,h3⟩ hdef;have Yh:=h3.cons (Fj:=W.heap.size) (D:=D') (by omega) (by omega) (Array.getElem?_eq_some_iff.1 hdef).1 hdef;unfold mkD at Yh;have zsb:=Aa Yh;have HL:Hid (Mh [] (tsL (l.take (j+1)))=some l3):=Aa (by rw[Pa.out,qa2,HT.out,<- Sx];exact h1);clear Yh h3 hdef h1 Sx;gi_wp2_with fail
     exact⟨⟨j+1,l3,_,_,_,_,_,_,_,_,_,_,_,_,_,_,_,_,by omega,HL,h2,zsb,rfl⟩,by simp[intOf];omega⟩
    case hstop =>
     rintro D' c pre W hD ⟨rest,hr⟩ ⟨rfl,h1,h2,h3⟩ hdef;have Yh:=h3.cons (Fj:=W.heap.size) (D:=D') (by omega) (by omega) (Array.getElem?_eq_some_iff.1 hdef).1 hdef;unfold mkD at Yh
     have Om:Hid (Oc l=([],5)):=Aa (by
      unfold Oc;rw[if_pos Ld.out]
      have h4:Mh [] (tsL l)=none:=by
       rw[ze2.out,qa2,HT.out]
       show Mh l2 (Sa ek++tsL (l.drop (j+1)))=none
       rw[<- hr,List.append_assoc,qa2,h1];rfl
      unfold tsL at h4
      rw[h4])
     gi_wp2_with fail
     refine quc (B:=B) Yh (by omega) fun W4 hs=>?_
     have e0:=(h2.r0.shut hs).one.1;have e1:=(h2.r1.shut hs).one.1;refine⟨.tuple #[.slice none 0 0,.int .i64 5],?_,.slice none 0 0,?_,?_,h2.bel.trans hs.bel⟩
     ·simp[results,Tryz.results10,go_sem,e0,e1]
     ·rw[Om.out]
     ·rw[Om.out];exact Oo.nil _ _
   ·obtain rfl:j=k:=by omega
    obtain⟨⟨v,Hq,Av⟩,Ay,r0,r1,Va,qkn,zbu⟩:=hS;obtain⟨c0,c1⟩:=r0.one;obtain⟨c2,c3⟩:=r1.one;obtain⟨c4,c5⟩:=Hq.one
    have Om:Hid (Oc l=(l2,0)):=Aa (by
     unfold Oc;rw[if_pos Ld.out];have h1:=HT.out;have h2:l.take j=l:=List.take_of_length_le (by rw[HN.out];exact Ab _);rw[h2]at h1;unfold tsL at h1
     rw[h1])
    have jI:=Av.read;obtain⟨sa,sc,rfl,_⟩:=jI.form
    have qkd:decide ((j:Int)<(j:Int))=false:=by simp
    have jab:=Aa jI;have Hi:=Aa Av;have Xl:=Aa r0;have Nz:=Aa r1;have D9:=Aa Hq;clear jI Av r0 r1 Hq;gi_wp2_with fail
    have Al:Below B w ((wr.setCell ⟨B,0,none⟩ (.slice sa l2.length sc)).setCell ⟨B+1,0,none⟩ (.int .i64 0)):=(Va.setCell (Ab _) _).setCell (by simp) _;have p0:Blk ((wr.setCell ⟨B,0,none⟩ (.slice sa l2.length sc)).setCell ⟨B+1,0,none⟩ (.int .i64 0)) B #[.slice sa l2.length sc] 27:=(Xl.out.set (.slice sa l2.length sc)).other (by omega) _;have p1:Blk ((wr.setCell ⟨B,0,none⟩ (.slice sa l2.length sc)).setCell ⟨B+1,0,none⟩ (.int .i64 0)) (B+1) #[.int .i64 0] 48:=(Nz.out.other (by omega) _).set (.int .i64 0);have ho:Oo (D+1) ((wr.setCell ⟨B,0,none⟩ (.slice sa l2.length sc)).setCell ⟨B+1,0,none⟩ (.int .i64 0)) (.slice sa l2.length sc) l2:=Hi.out.move ⟨fun b o hb ho _=>((Below.heap_setCell _ _ _ _ (by show b≠B+1;omega)).trans (Below.heap_setCell _ _ _ _ (by show b≠B;omega))).trans ho,by simp[World.setCell]⟩
    have hd:Ni (B+2) wr.heap.size ((wr.setCell ⟨B,0,none⟩ (.slice sa l2.length sc)).setCell ⟨B+1,0,none⟩ (.int .i64 0)) ds:=(iW.out.kept (Fm wr B 0 _) (fun q e=>.inr fun o ho=>by simp at e;subst e;have h1:=Xl.out;unfold Blk at h1;rw[h1]at ho;cases ho;rfl)).kept (Fm _ (B+1) 0 _) (fun q e=>.inr fun o ho=>by
     simp at e;subst e;have h1:=Nz.out.other (b':=B) (i:=0) (by omega) (.slice sa l2.length sc)
     unfold Blk at h1;rw[h1]at ho;cases ho;rfl)
    obtain⟨W3,Cn⟩:=Ae ((wr.setCell ⟨B,0,none⟩ (.slice sa l2.length sc)).setCell ⟨B+1,0,none⟩ (.int .i64 0));rw[Cn]at Al p0 p1 ho hd ⊢
    refine quc (B:=B) hd (by omega) fun W4 hs=>?_
    have e0:=(p0.shut hs).one.1;have e1:=(p1.shut hs).one.1;refine⟨.tuple #[.slice sa l2.length sc,.int .i64 0],?_,.slice sa l2.length sc,?_,?_,Al.trans hs.bel⟩
    ·simp[results,Tryz.results10,go_sem,e0,e1]
    ·rw[Om.out]
    ·rw[Om.out]
     exact(ho.move ⟨fun b o _ ho hc=>hs.cells b o ho hc,hs.bel.size⟩).mono (by omega)
theorem qo8 (K:Nat) (v:Value) (l:List Gx) (g:Nat->Xv) (w:World) (hv:Au 9 (fun i j=>(g i).cell j) K w v l.length) (hx:∀ (i:Nat) (a:Gx),l[i]?=some a->ExG K w a (g i)) (Pn:∀ a∈l,a.good=true) (hK:K<=w.heap.size) :
  Calls Tryz.prog 10 #[v] w fun e w'=>∃ v',e=.returned (.tuple #[v',.int .i64 (Oc l).2])/\Mo w'.heap.size w' v' (Oc l).1/\Below w.heap.size w w' :=
 (qnc K v l g w hv hx Pn hK).mono fun e w' ⟨v',h1,h2,h3⟩=>⟨v',h1,h2.read,h3⟩
end Go.Proofs.YtlldjmagbjjeoaaGreatDoor
