/- Contracts and plain laws, several texts in one (DFit, DFind, DRch, DRch2, DLead, DSrch0). No conditions beyond those stated. -/
import Derived.Test.YtlldjmagbjjeoaaGreatDoorPk33
set_option maxRecDepth 100000
set_option maxHeartbeats 40000000
namespace Go.Proofs.YtlldjmagbjjeoaaGreatDoor
open Go.RowKit
set_option linter.unusedVariables false
theorem zpl (K:Nat) (x:Dv) (scs:List Sc) (st:DSt) (root:Int) (cv:Value) (cs:List Nat) (w:World) (h:DgX K w x scs st root) (hv:DgV scs st root) (hg:K8 scs) (hc:Ee K w cv cs) (De:Cu (pcs scs) cs) (hK:K<=w.heap.size) :
  Calls Tryz.prog 24 #[x.agg,cv] w fun e w'=>e=.returned (.bool true)/\Below w.heap.size w w':=by
 obtain⟨l1,l2,l3⟩:=h.lens;obtain⟨n,hn⟩:=Ae scs.length;have eE:=hv.len
 have Ba:cs.length=n:=by rw[De.1];unfold pcs;rw[List.length_map];exact hn
 obtain⟨ca,cm,rfl,qfx,qlg⟩:=hc.form
 have Mr:∀ W,Below w.heap.size w W->Calls Tryz.prog 20 #[x.agg] W fun e w'=>e=.returned (.bool true)/\Below W.heap.size W w':=fun W hb=>uK W.heap.size x scs st root W (h.below hb hK (by have := hb.size;omega)) hv hg (Ab _)
 obtain⟨⟨sa,sn,sm⟩,⟨na,nn,nm⟩,⟨la,ln,lm⟩,rt⟩:=x;simp only at l1;have hs:=h.s;dsimp only at hs;subst l1;clear l2 l3;obtain⟨_,_,Cp,Az,Ep⟩:=hs.form;simp only[Value.slice.injEq,Sl.val,true_and]at Cp;obtain⟨rfl,rfl⟩:=Cp;obtain⟨W1,Ah⟩:=Ae (w.alloc (.cells #[.slice sa scs.length sm,.slice na nn nm,.slice la ln lm,.int .i64 rt] 31))
 have b1:Below w.heap.size w W1:=by rw[<- Ah];exact Af _ _
 have q1:Blk W1 w.heap.size #[.slice sa scs.length sm,.slice na nn nm,.slice la ln lm,.int .i64 rt] 31:=by rw[<- Ah];exact Blk.new w _ _
 have s1:W1.heap.size=w.heap.size+1:=by rw[<- Ah];simp
 have qfl:=Mr W1 b1;obtain⟨T,hT⟩:=Ae w.heap.size;have HT:=Aa hT;have HW:=Aa Ah;rw[hT]at b1 q1 s1 hK ⊢;rw[hn]at q1 qfl hs Az HW eE ⊢;rw[Ba]at qfx ⊢;rw[Ba]at hc;have HS:=Aa hs;have HC:=Aa hc;have dG:=Aa De;have HN:=Aa hn;have Hl:=Aa Ba;have HG:=Aa hg;have HV:=Aa hv;have Bi:=Aa b1;have Bc:=Aa q1;have S1:=Aa s1;have Th:=Aa qfl;unfold maxLen at qlg Ep
 have Vh:T<W1.heap.size:=by omega
 obtain⟨c0,c1,c2,c3⟩:=q1.four
 have At:((n:Int) != (n:Int))=false:=by simp
 dsimp only[Dv.agg,Dv.cells,Sl.val]at Th ⊢;clear h hs hc De hn Ba hg hv b1 q1 s1 Mr qfl hT Ah;go_enter Tryz.func24,Tryz.ntmps24
 go_upto_region 1 with fail
 simp only[HT.out];rw[HW.out];go_wp2_with fail
 refine Th.out.mono ?_;clear Th c0 c1 c2 c3;rintro en w2 ⟨rfl,Ai⟩;have d0:w2.cell? ⟨T,0,none⟩=some (.slice sa n sm):=(Bc.out.below Ai Vh).at rfl;have Bz:=Aa Ai;have zq2:=Ai.size;clear Ai;go_wp2_with fail
 go_loopw [21] (fun iv wr=>∃ i:Nat,i<=n/\iv=.int .i64 i/\Below w2.heap.size w2 wr) (fun iv _=>n-(intOf iv).toNat)
 case atStart=>exact⟨0,Nat.zero_le _,rfl,Below.refl _ _⟩
 case round =>
  obtain⟨i,hi,rfl,Bb⟩:=hrel;obtain⟨wo,rfl⟩:∃ wo:World,wo=wr:=⟨_,rfl⟩;have Ej:=Aa Bb;have Jl:=Bb.size;have bTo:Below T w wo:=(Bi.out.trans (Bz.out.mono (by omega))).trans (Bb.mono (by omega))
  by_cases Aj:i<n
  ·obtain⟨gy,Cx,Cd⟩:=HS.out
   rw[HN.out]at Cx Cd;obtain⟨b,o,cap,he,_,_,Cj,Em⟩:=Cx.pos (by omega);simp only[Value.slice.injEq,true_and]at he;obtain⟨rfl,rfl⟩:=he
   have Cr:i<scs.length:=by rw[HN.out];exact Aj
   obtain⟨s,hs⟩:=Ae (scs[i]?.getD default)
   have Eh:scs[i]?=some s:=by rw[<- hs,Ac Cr];rfl
   have Hm:s∈scs:=List.mem_of_getElem? Eh;have hx:=Cd i Aj;rw[hs]at hx;have Ce:=aK (g:=gy) (Km bTo (by omega) Em) Aj;obtain⟨y,hy⟩:=Ae (gy i);rw[hy]at hx Ce;have Df:Hid (∀ u∈y.cells,u.oneCell'=true):=Aa (by simp[Value.oneCell']);have HX:=Aa (hx.below bTo hK (show K<=wo.heap.size by omega));have Mz:=Aa (HG.out s Hm)
   have oY:i<cs.length:=by rw[Hl.out];exact Aj
   obtain⟨cb,co,ccap,Gg,_,_,kA,Rp⟩:=Ee.pos HC.out (by rw[Hl.out];omega);rw[Hl.out]at Gg;simp only[Value.slice.injEq,true_and]at Gg;obtain⟨rfl,rfl⟩:=Gg;obtain⟨c,Ev⟩:∃ c,cs[i]?=some c:=⟨_,Ac oY⟩;have e0:wo.cell? ⟨cb,co+i,none⟩=some (.int .i64 (c:Int)):=(bTo.cell (p:=⟨cb,co+i,none⟩) (Nat.lt_of_lt_of_le kA hK)).trans (by have := Rp i oY;rw[Ev]at this;exact this)
   have Fl:c∈Bf s:=by
    obtain⟨p,hp,hm⟩:=dG.out.2 i c Ev;unfold pcs at hp;rw[List.getElem?_map,Eh]at hp;cases hp;exact hm
   have qao:=Aa Fl;clear Em hs Eh Hm hx hy Cx Cd bTo Bb Rp Ev Fl
   go_upto_region 6 with(first
    | (refine wpList_load_mid rfl 46 (.tmp 24) rfl b (o+i*11) rfl y.cells.toList _ Ce Tryz.underlying46 rfl Mc ?_)
    | (refine Iu rfl 46 (.tmp 6) (.tmp 25) rfl y.cells _ Mc rfl Df.out wo.heap.size rfl rfl rfl ?_))
   obtain⟨T2,Jh⟩:∃ T,wo.heap.size=T:=⟨_,rfl⟩;obtain⟨W2,Ax⟩:∃ W,wo.alloc (.cells y.cells 46)=W:=⟨_,rfl⟩
   have b2:Below T2 wo W2:=by rw[<- Ax,<- Jh];exact Af _ _
   have q2:Blk W2 T2 y.cells 46:=by rw[<- Ax,<- Jh];exact Blk.new wo _ _
   rw[Jh];rw[Ax];rw[Jh]at HX Jl;have e1:=(b2.cell (p:=⟨cb,co+i,none⟩) (show cb<T2 by omega)).trans e0;have qS:(fun W'=>Below W2.heap.size W2 W') W2.drew:=Er (Below.refl _ _)
   have ql6:cb<W2.heap.size:=by have := b2.size;omega
   have Gg:=xM T2 s y W2.drew (HX.out.below (b2.trans (qS.mono (by have := q2.lt;omega))) (Ab _) (Ab _)) (by show T2<=W2.heap.size;have := q2.lt;omega) Mz.out.1 Mz.out.2;have Vk:=Aa Gg;have qln:=Aa b2;have Rb:=Aa Jh;have Bw:=Aa q2;have Xw:=Aa e1;clear Jh Ax q2 b2 Gg Ce Df e0 e1;refine Fz (fun W'=>Below W2.heap.size W2 W') [] (by kernel_rfl) ?_;refine Ar (i:=0) (v:=y.agg) rfl (yieldsIf_load_mid (by kernel_rfl) 46 (.tmp 6) rfl T2 0 rfl y.cells.toList _ (fun W' hS=>(Bw.out.below hS Bw.out.lt).range) Tryz.underlying46 rfl Mc) qS ?_;refine Am (i:=2) (v:=.slice (some ⟨cb,co,none⟩) n cm) rfl qS ?_;refine Am (i:=3) (v:=.int .i64 (i:Int)) rfl qS ?_;refine Am (i:=4) (v:=.pointer (some ⟨cb,co+i,none⟩)) rfl qS ?_;refine Ar (i:=5) (v:=.int .i64 (c:Int)) rfl (.inl ⟨by kernel_rfl,fun W' hS=>by have d0:=(hS.cell (p:=⟨cb,co+i,none⟩) ql6).trans Xw.out;go_simp⟩) qS ?_;refine Ap (i:=1) rfl ?_;go_simp
   refine Vk.out.mono ?_;rintro en w3 ⟨pv,rfl,Mw,Ak⟩;have Ak:Below W2.heap.size W2.drew w3:=Ak;have qS3:Below W2.heap.size W2 w3:=qS.trans Ak;refine⟨qS3,?_⟩;have Li:=zud w3.heap.size pv (Bf s) c w3 Mw.nats qao.out;obtain⟨pa,pc,Sm,_,_⟩:=Mw.nats.form;have wE:=Aa Li;rw[Sm]at wE ⊢;clear Mw Li Ak Sm;refine Ap (i:=6) rfl ?_;go_simp
   refine wE.out.mono ?_;rintro en w4 ⟨rfl,rfl⟩;refine⟨qS3,?_⟩;refine Am (i:=7) (v:=.bool false) rfl qS3 ?_;refine Eo (by kernel_rfl) ?_ _;go_simp
   have hb:Below w2.heap.size w2 w4:=Ej.out.trans ((qln.out.trans (qS3.mono (by have := Bw.out.lt;omega))).mono (by omega));have HB:=Aa hb;clear hb qS3 qS
   apply (show ∀ (a:Act) (w:World),_->_ from by assumption)
   go_wp2_with fail
   exact⟨⟨i+1,by omega,by go_num,HB.out⟩,by simp[intOf];omega⟩
  ·obtain rfl:i=n:=by omega
   have E6:=Aa bTo;clear hi Aj Bb bTo;go_wp2_with fail
   go_ret
   exact⟨rfl,E6.out⟩
def dmz (st:DSt) (n:Nat) (t:Int):Nat:=if t<0 then 0 else n-((st.nds[t.toNat]?).map (·.1)).getD 0
theorem qvo {st:DSt} {n k sc:Nat} {nx:List Int} {t:Int} (hk:st.nds[k]?=some (sc,nx)) (hs:sc<n) (ht:TOk st (sc+1) t):dmz st n t<dmz st n (k:Int):=by
 have e:dmz st n (k:Int)=n-sc:=by
  unfold dmz;rw[if_neg (by omega),show((k:Int)).toNat=k from rfl,hk];rfl
 rw[e]
 rcases ht with⟨m,rfl,_⟩ | ⟨m,y,rfl,hy,Bt⟩
 ·unfold dmz;rw[if_pos (by omega)];omega
 ·unfold dmz
  rw[if_neg (by omega),show((m:Int)).toNat=m from rfl,hy]
  show n-y.1<n-sc
  omega
theorem qjv (g:Nat->Option Value) (n:Nat) (h:n<=2^62):fN g (.int .i64 n)=g n:=by
 show(if 0<=(n:Int)/\(n:Int)<=2^62 then g (n:Int).toNat else none)=g n
 rw[if_pos ⟨by omega,by omega⟩]
 rfl
def knF (p:Int->Bool) (D:List Nat):Nat->Option Value:=fun k=>if D.contains k then some (.bool (p (k:Int)))else none
theorem zjh (p:Int->Bool) (D:List Nat) (k:Nat):C4 (knF p D) k (.bool (p (k:Int)))=knF p (D++[k]):=by
 funext j
 unfold C4 knF
 by_cases h:j=k
 ·subst h;simp
 ·simp[h]
structure Kz (w0:World) (kb N:Nat) (p:Int->Bool) (W:World):Prop where
 grown:w0.grownBy W (some kb)
 map:∃ D:List Nat,D.Nodup/\(∀ k∈D,k<N)/\Ek W 3 kb D.length (fN (knF p D))
theorem qph {D:List Nat} {N:Nat} (h:D.Nodup) (hl:∀ k∈D,k<N):D.length<=N:=by
 have := List.Nodup.length_le_of_subset h (l₂:=List.range N) fun k hk=>List.mem_range.2 (hl k hk)
 simpa using this
theorem Kz.drewN {w0 W:World} {kb N:Nat} {p:Int->Bool} (h:Kz w0 kb N p W) (n:Nat):Kz w0 kb N p (W.drewN n):=⟨⟨h.grown.os,h.grown.tape,h.grown.output,h.grown.size,h.grown.block⟩,h.map⟩
theorem Xf {w0 W:World} {kb b i:Nat} {v:Value} (h:w0.grownBy W (some kb)) (hb:b≠kb) (hc:w0.cell? ⟨b,i,none⟩=some v):W.cell? ⟨b,i,none⟩=some v:=h.cell hc (by simpa using hb)
structure iB (w0:World) (K wb db mb rb kb gw:Nat) (x:Dv) (scs:List Sc) (st:DSt) (root:Int) (Wp:List Nat->Bool):Prop where
 w:Blk w0 wb #[.func (.func gw) #[] #[]] 90
 d:Blk w0 db x.cells 31
 m:Blk w0 mb #[.map (some kb)] 123
 r:Blk w0 rb #[.func (.func 77) #[] #[.pointer (some ⟨wb,0,none⟩),.pointer (some ⟨db,0,none⟩),.pointer (some ⟨mb,0,none⟩),.pointer (some ⟨rb,0,none⟩)]] 68
 dg:DgX K w0 x scs st root
 dv:DgV scs st root
 kk:K<=kb
 kl:kb<w0.heap.size
 n1:wb≠kb
 n2:db≠kb
 n3:mb≠kb
 n4:rb≠kb
 eg:∀ args w,(callFunc gw args).run Tryz.prog w=.ok (.enter gw args) w
 wc:∀ (W:World) (v:Value) (l:List Nat),Ee W.heap.size W v l->Calls Tryz.prog gw #[v] W fun e W'=>e=.returned (.bool (Wp l))/\W'=W
abbrev R3 (wb db mb rb:Nat):Array Value:=#[.pointer (some ⟨wb,0,none⟩),.pointer (some ⟨db,0,none⟩),.pointer (some ⟨mb,0,none⟩),.pointer (some ⟨rb,0,none⟩)]
theorem qnh (w0:World) (K wb db mb rb kb gw:Nat) (x:Dv) (scs:List Sc) (st:DSt) (root:Int) (Wp:List Nat->Bool) (h:iB w0 K wb db mb rb kb gw x scs st root Wp) (p:Int->Bool) (hp:∀ t,p t=true ↔ Tx st Wp t) (n:Nat) (hn:n<st.lvs.length) (W:World) (hI:Kz w0 kb st.nds.length p W) :
  Calls Tryz.prog 77 (#[.int .i64 (-1-(n:Int))]++R3 wb db mb rb) W fun e W'=>e=.returned (.bool (p (-1-(n:Int))))/\Kz w0 kb st.nds.length p W':=by
 obtain⟨_,_,l3⟩:=h.dg.lens;obtain⟨l,hl⟩:∃ l,st.lvs[n]?=some l:=⟨_,Ac hn⟩
 have En:p (-1-(n:Int))=Wp l:=by
  have := (hp (-1-(n:Int))).trans qwf
  cases hw:Wp l with
  | true=>exact this.2 ⟨l,hl,hw⟩
  | false =>
   cases hq:p (-1-(n:Int))with
   | false=>rfl
   | true =>
    obtain⟨l',h1,h2⟩:=this.1 hq;rw[hl]at h1;cases h1;rw[hw]at h2;cases h2
 rw[En];obtain⟨lg,Mk,O2⟩:=h.dg.l;obtain⟨lb,lo,lcap,Bt,_,_,qvn,Uy⟩:=Mk.pos (by omega);have Lb:=O2 n hn;rw[hl,Option.getD_some]at Lb;obtain⟨ea,ec,cR,_,_⟩:=Lb.form;have Hc:=h.kk;have e0:W.cell? ⟨lb,lo+n,none⟩=some (.slice ea l.length ec):=Xf hI.grown (by omega) (by have := Uy n hn 0 (by omega);rw[cR]at this;simpa using this);have e1:W.cell? ⟨db,2,none⟩=some (.slice (some ⟨lb,lo,none⟩) st.lvs.length lcap):=Xf hI.grown h.n2 (by have := h.d.at (i:=2) (x:=x.l.val) rfl;rw[this];exact congrArg some Bt);have e2:W.cell? ⟨wb,0,none⟩=some (.func (.func gw) #[] #[]):=Xf hI.grown h.n1 (h.w.at rfl)
 have K5:Ee W.heap.size W (.slice ea l.length ec) l:=by
  rw[cR]at Lb;have hb:Below K w0 W:=⟨hI.grown.os,hI.grown.tape,hI.grown.output,hI.grown.size,fun b hb=>hI.grown.block b (by have := h.kl;omega) (by simp;omega)⟩;exact Lb.below hb (Ab _) (by have := hI.grown.size;have := h.kl;omega)
 have U8:∀ z,Calls Tryz.prog gw #[.slice ea l.length ec] (W.drewN z) fun e W'=>e=.returned (.bool (Wp l))/\W'=W.drewN z:=fun z=>h.wc (W.drewN z) _ l K5
 have eg:=h.eg;have qhr:=Aa U8;have HI:=Aa hI;obtain⟨q,hq⟩:=Ae st.lvs.length;rw[hq]at e1 hn;have vU:=h.dv.lsz;obtain⟨t,ht⟩:∃ t:Int,-1-(n:Int)=t:=⟨_,rfl⟩;have Nv:decide (t<0)=true:=decide_eq_true (by omega)
 have hw:IntKind.i64.wrap (-1-t)=(n:Int):=by rw[<- ht,show(-1-(-1-(n:Int)))=(n:Int)by omega];exact IntWalk.i64_in _ (by omega)
 obtain⟨r,hr⟩:=Ae (Wp l);rw[hr]at qhr ⊢;obtain⟨u,hu⟩:=Ae l.length;rw[hu]at qhr e0;rw[ht]
 show Calls Tryz.prog 77 #[.int .i64 t,.pointer (some ⟨wb,0,none⟩),.pointer (some ⟨db,0,none⟩),.pointer (some ⟨mb,0,none⟩),.pointer (some ⟨rb,0,none⟩)] W _
 clear l3 hl En Mk O2 Bt Uy Lb cR K5 U8 hI hq vU hr hu ht h hp;go_enter Tryz.func77,Tryz.ntmps77
 go_upto_region 2 with fail
 have U8:=qhr.out;go_quiet (first | (refine Calls.quiet_of_same (U8 _)))
 clear U8;go_wp2_with fail
 go_ret
 exact⟨rfl,HI.out.drewN _⟩
theorem zfp (w0:World) (K wb db mb rb kb gw:Nat) (x:Dv) (scs:List Sc) (st:DSt) (root:Int) (Wp:List Nat->Bool) (h:iB w0 K wb db mb rb kb gw x scs st root Wp) (p:Int->Bool) (hp:∀ t,p t=true ↔ Tx st Wp t) (k sc:Nat) (nx:List Int) (hk:st.nds[k]?=some (sc,nx)) (W:World) (hI:Kz w0 kb st.nds.length p W)
  (zQ:∀ t∈nx,∀ W,Kz w0 kb st.nds.length p W->Calls Tryz.prog 77 (#[.int .i64 t]++R3 wb db mb rb) W fun e W'=>e=.returned (.bool (p t))/\Kz w0 kb st.nds.length p W') :
  Calls Tryz.prog 77 (#[.int .i64 (k:Int)]++R3 wb db mb rb) W fun e W'=>e=.returned (.bool (p (k:Int)))/\Kz w0 kb st.nds.length p W':=by
 obtain⟨_,l2,_⟩:=h.dg.lens;have Hc:=(List.getElem?_eq_some_iff.1 hk).1
 have Pv:p (k:Int)=nx.any p:=by
  have h1:=(hp (k:Int)).trans (qyk hk)
  cases hq:nx.any p with
  | true =>
   obtain⟨t,ht,zk1⟩:=List.any_eq_true.1 hq;exact h1.2 ⟨t,ht,(hp t).1 zk1⟩
  | false =>
   cases hr:p (k:Int)with
   | false=>rfl
   | true =>
    obtain⟨t,ht,hg⟩:=h1.1 hr;rw[List.any_eq_true.2 ⟨t,ht,(hp t).2 hg⟩]at hq;cases hq
 obtain⟨ng,Mj,Zu⟩:=h.dg.n;obtain⟨b,o,cap,he,_,_,Cj,Ba⟩:=Mj.pos (by omega);have Lb:=Zu k Hc;rw[hk]at Lb;dsimp only[Option.getD_some]at Lb;obtain⟨xa,xc,C2,Pq,Ng⟩:=Au.form Lb;have Kd:=h.kk
 have e5:∀ V,w0.grownBy V (some kb)->V.cell? ⟨b,o+k*2+1,none⟩=some (.slice xa nx.length xc):=fun V hV=>Xf hV (by omega) (by have := Ba k Hc 1 (by omega);rw[Nat.add_assoc,<- C2];simpa using this)
 have e1:∀ V,w0.grownBy V (some kb)->V.cell? ⟨db,1,none⟩=some (.slice (some ⟨b,o,none⟩) st.nds.length cap):=fun V hV=>Xf hV h.n2 (by have := h.d.at (i:=1) (x:=x.n.val) rfl;rw[this];exact congrArg some he)
 have e6:∀ V,w0.grownBy V (some kb)->V.cell? ⟨rb,0,none⟩=some (.func (.func 77) #[] (R3 wb db mb rb)):=fun V hV=>Xf hV h.n4 (h.r.at rfl)
 have e0:W.cell? ⟨mb,0,none⟩=some (.map (some kb)):=Xf hI.grown h.n3 (h.m.at rfl)
 have kJ:zI (Kz w0 kb st.nds.length p) (.slice xa nx.length xc) nx:=by
  refine⟨⟨xa,xc,rfl,Pq,Ng⟩,fun h0=>?_⟩;obtain⟨xb,xo,xc',Mf,_,_,aX,Vp⟩:=Au.pos Lb h0;rw[C2]at Mf;simp only[Value.slice.injEq,true_and]at Mf;obtain⟨rfl,rfl⟩:=Mf;exact⟨xb,xo,xc,rfl,fun V hV i hi=>Xf hV.grown (by omega) (by have := Vp i hi 0 (by omega);simpa using this)⟩
 have qcr:=h.dv.nsz;obtain⟨D,qbd,eX,qkb⟩:=hI.map;have gT:=qph qbd eX
 have eZ:k<=2^62:=by omega
 have To:D.length<maxLen:=by unfold maxLen;omega
 have H1:=Aa e1;have H5:=Aa e5;have H6:=Aa e6;have nC:=Aa kJ;have HI:=Aa hI;have HM:=Aa qkb;have HD:=Aa (And.intro qbd eX);have jaq:=Aa zQ;have qkh:=Aa Pv;have zvj:=Aa h.n3;have zs8:Hid (w0.cell? ⟨mb,0,none⟩=some (.map (some kb))):=Aa (h.m.at rfl);obtain⟨m,hm⟩:=Ae st.nds.length;have wR:=Aa hm;rw[hm]at H1 Hc;have t0:decide ((k:Int)<0)=false:=decide_eq_false (by omega);have Bq:fN (knF p D) (.int .i64 (k:Int))=knF p D k:=qjv _ k eZ;obtain⟨r,hr⟩:=Ae (p (k:Int));have HR:=Aa hr;rw[hr];obtain⟨u,hu⟩:=Ae nx.length;rw[hu]at H5 nC
 show Calls Tryz.prog 77 #[.int .i64 (k:Int),.pointer (some ⟨wb,0,none⟩),.pointer (some ⟨db,0,none⟩),.pointer (some ⟨mb,0,none⟩),.pointer (some ⟨rb,0,none⟩)] W _
 by_cases hkD:D.contains k=true
 ·have Bu:Hid ((fN (knF p D) (.int .i64 (k:Int))).getD (.bool false)=.bool r):=Aa (by rw[Bq];unfold knF;rw[if_pos hkD,hr];rfl)
  have Bs:Hid ((fN (knF p D) (.int .i64 (k:Int))).isSome=true):=Aa (by rw[Bq];unfold knF;rw[if_pos hkD];rfl);clear l2 Pv Mj Zu he Ba Lb C2 Pq Ng e1 e5 e6 kJ qbd eX qkb hI h hp hk zQ Bq hr hu hm hkD;go_enter Tryz.func77,Tryz.ntmps77
  go_wp2_with (at_lookup;refine nO _ rfl _ _ 123 rfl _ qle Tryz.underlying123 (Tryz.zeroValue4 _) rfl HM.out _ (.int .i64 (k:Int)) rfl (qgx k eZ) (.bool r) true Bu.out Bs.out ?_)
  go_ret
  exact⟨rfl,HI.out⟩
 ·have Bu:Hid ((fN (knF p D) (.int .i64 (k:Int))).getD (.bool false)=.bool false):=Aa (by rw[Bq];unfold knF;rw[if_neg hkD];rfl)
  have Bs:Hid ((fN (knF p D) (.int .i64 (k:Int))).isSome=false):=Aa (by rw[Bq];unfold knF;rw[if_neg hkD];rfl);have qhs:=zkc 77 (R3 wb db mb rb) (enters_of Tryz.func77 (by kernel_rfl) rfl) nx p (.slice xa u xc) (Kz w0 kb st.nds.length p) nC.out zQ W.drew (hI.drewN 1);rw[<- Pv,hr]at qhs;have HC:=Aa qhs;have EG:=h.eg;clear EG l2 Pv Mj Zu he Ba Lb C2 Pq Ng e1 e5 e6 kJ qbd eX qkb hI h hp hk zQ Bq hr hu hm qhs;go_enter Tryz.func77,Tryz.ntmps77
  go_upto_region 5 with(at_lookup;refine nO _ rfl _ _ 123 rfl _ qle Tryz.underlying123 (Tryz.zeroValue4 _) rfl HM.out _ (.int .i64 (k:Int)) rfl (qgx k eZ) (.bool false) false Bu.out Bs.out ?_)
  have qS:(fun W'=>w0.grownBy W' (some kb)) W.drew:=(HI.out.drewN 1).grown;refine Fz (fun W'=>w0.grownBy W' (some kb)) [] (by kernel_rfl) ?_;refine Am (i:=0) (v:=.pointer (some ⟨db,1,none⟩)) rfl qS ?_;refine Ar (i:=1) (v:=.slice (some ⟨b,o,none⟩) m cap) rfl (.inl ⟨by kernel_rfl,fun W' hS=>by have d0:=H1.out W' hS;go_simp⟩) qS ?_;refine Am (i:=2) (v:=.int .i64 (k:Int)) rfl qS ?_;refine Am (i:=3) (v:=.pointer (some ⟨b,o+k*2,none⟩)) rfl qS ?_;refine Am (i:=4) (v:=.pointer (some ⟨b,o+k*2+1,none⟩)) rfl qS ?_;refine Ar (i:=5) (v:=.slice xa u xc) rfl (.inl ⟨by kernel_rfl,fun W' hS=>by have d0:=H5.out W' hS;go_simp⟩) qS ?_;refine Ar (i:=6) (v:=.func (.func 77) #[] (R3 wb db mb rb)) rfl (.inl ⟨by kernel_rfl,fun W' hS=>by have d0:=H6.out W' hS;go_simp⟩) qS ?_;refine Ap (i:=7) rfl ?_;go_simp
  refine HC.out.mono ?_;clear HC;rintro en w2 ⟨rfl,qja⟩;have qS2:w0.grownBy w2 (some kb):=qja.grown;refine⟨qS2,?_⟩;refine Ap (i:=8) rfl ?_;go_simp
  refine Eo (by kernel_rfl) ?_ _;go_simp
  obtain⟨D2,jJ,iX,qsr⟩:=qja.map;have vZ:=qph jJ iX
  have zqv:D2.length<maxLen:=by unfold maxLen;have := wR.out;omega
  have zr8:=Aa qsr;have HE:=Aa (And.intro jJ iX);have gC:=Aa qS2;have c0:w2.cell? ⟨mb,0,none⟩=some (.map (some kb)):=Xf qS2 zvj.out zs8.out;clear qja qS2 jJ iX vZ qsr qS e0
  apply (show ∀ (a:Act) (w:World),_->_ from by assumption)
  go_wp2_with (at_mapUpdate;refine qji _ rfl _ _ _ 123 rfl _ qle Tryz.underlying123 rfl zr8.out zqv _ (.int .i64 (k:Int)) rfl (qgx k eZ) (.bool r) rfl ?_;intro w3 I6 nE)
  go_ret
  refine⟨rfl,Xm gC.out nE,?_⟩;rw[zwm _ _ eZ,show(.bool r:Value)=.bool (p (k:Int))by rw[HR.out],zjh]at I6
  by_cases qco:D2.contains k=true
  ·rw[show(fN (knF p D2) (.int .i64 (k:Int))).isSome=true by rw[qjv _ k eZ];unfold knF;rw[if_pos qco];rfl]at I6
   have e:knF p (D2++[k])=knF p D2:=by
    funext j
    unfold knF
    by_cases hj:j=k
    ·subst hj;simp;simpa using qco
    ·simp[hj]
   rw[e]at I6;exact⟨D2,HE.out.1,HE.out.2,I6⟩
  ·rw[show(fN (knF p D2) (.int .i64 (k:Int))).isSome=false by rw[qjv _ k eZ];unfold knF;rw[if_neg qco];rfl]at I6
   refine⟨D2++[k],?_,fun j hj=>?_,by rw[List.length_append];exact I6⟩
   ·rw[List.nodup_append]
    exact⟨HE.out.1,by simp,fun a ha b hb=>by rw[List.mem_singleton.1 hb];rintro rfl;exact qco (List.contains_iff_mem.2 ha)⟩
   ·rcases List.mem_append.1 hj with hj | hj
    ·exact HE.out.2 j hj
    ·rw[List.mem_singleton.1 hj,wR.out];exact Hc
theorem qxd (w0:World) (K wb db mb rb kb gw:Nat) (x:Dv) (scs:List Sc) (st:DSt) (root:Int) (Wp:List Nat->Bool) (h:iB w0 K wb db mb rb kb gw x scs st root Wp) (p:Int->Bool) (hp:∀ t,p t=true ↔ Tx st Wp t) (N:Nat):∀ (t:Int),dmz st scs.length t<=N->TOk st 0 t->∀ (W:World),Kz w0 kb st.nds.length p W →
  Calls Tryz.prog 77 (#[.int .i64 t]++R3 wb db mb rb) W fun e W'=>e=.returned (.bool (p t))/\Kz w0 kb st.nds.length p W':=by
 induction N with
 | zero =>
  intro t ht bG W hI
  rcases bG with⟨n,rfl,hn⟩ | ⟨k,y,rfl,hk,_⟩
  ·exact qnh w0 K wb db mb rb kb gw x scs st root Wp h p hp n hn W hI
  ·exfalso
   obtain⟨s,hs,_,_⟩:=h.dv.node k y.1 y.2 hk;have Aj:=(List.getElem?_eq_some_iff.1 hs).1;unfold dmz at ht;rw[if_neg (by omega),show((k:Int)).toNat=k from rfl,hk]at ht
   have:scs.length-y.1<=0:=ht
   omega
 | succ N ih =>
  intro t ht bG W hI
  rcases bG with⟨n,rfl,hn⟩ | ⟨k,y,rfl,hk,_⟩
  ·exact qnh w0 K wb db mb rb kb gw x scs st root Wp h p hp n hn W hI
  ·obtain⟨sc,nx⟩:=y
   obtain⟨s,hs,_,Ea⟩:=h.dv.node k sc nx hk;have Aj:=(List.getElem?_eq_some_iff.1 hs).1
   refine zfp w0 K wb db mb rb kb gw x scs st root Wp h p hp k sc nx hk W hI fun t' Ua W' Vf=>?_
   have := qvo hk Aj (Ea t' Ua);exact ih t' (by omega) ((Ea t' Ua).mono (Ext.refl _) (Nat.zero_le _)) W' Vf
def zsf (a b:List Nat):Prop:=(∃ i:Nat,a[i]?.getD 0<b[i]?.getD 0/\∀ j:Nat,j<i->a[j]?.getD 0=b[j]?.getD 0)\/∀ j:Nat,a[j]?.getD 0=b[j]?.getD 0
theorem zix (s:Sc):(Bf s).Pairwise (· < ·):=by
 unfold Bf
 split
 ·exact List.Pairwise.filter _ List.pairwise_lt_range
 ·exact .nil
theorem zi7 {l:List Nat} (h:l.Pairwise (· < ·)) {c:Nat} (hc:c∈l):l.headD 0<=c:=by
 cases l with
 | nil=>cases hc
 | cons a r =>
  rcases List.mem_cons.1 hc with rfl | hc
  ·exact Ab _
  ·exact Nat.le_of_lt (List.rel_of_pairwise_cons h hc)
section
variable {P:List (List Nat)} {st:DSt} {root:Int} {W:List Nat->Bool}
theorem Cu.at {cs:List Nat} (h:Cu P cs) {j:Nat} (hj:j<P.length):cs[j]?.getD 0∈(P[j]?.getD []):=by
 have hl:j<cs.length:=by rw[h.1];exact hj
 obtain⟨p,hp,hc⟩:=h.2 j _ (Ac hl);rw[Ac hl,hp];exact hc
theorem qdz (hP:∀ p∈P,p.Pairwise (· < ·)) {a cs:List Nat} (De:Cu P cs) (s:Nat) (h0:∀ j,j<s->a[j]?.getD 0=cs[j]?.getD 0):∀ e,e<=P.length->(∀ j,s<=j->j<e->a[j]?.getD 0=(P[j]?.getD []).headD 0) →
  (∃ i,a[i]?.getD 0<cs[i]?.getD 0/\i<e/\∀ j,j<i->a[j]?.getD 0=cs[j]?.getD 0)\/∀ j,j<e->a[j]?.getD 0=cs[j]?.getD 0
 | 0,_,_=>.inr fun j hj=>absurd hj (Nat.not_lt_zero _)
 | e+1,he,ha=>by
  rcases qdz hP De s h0 e (by omega) (fun j h1 h2=>ha j h1 (by omega))with⟨i,h1,h2,h3⟩ | h
  ·exact .inl ⟨i,h1,by omega,h3⟩
  ·by_cases gW:e<s
   ·exact .inr fun j hj=>h0 j (by omega)
   ·have h1:=ha e (by omega) (by omega)
    have hm:=De.at (j:=e) (by omega)
    have hp:(P[e]?.getD []).Pairwise (· < ·):=by
     rw[Ac (show e<P.length by omega)];exact hP _ (List.getElem_mem _)
    have h2:=zi7 hp hm;rw[<- h1]at h2
    by_cases A2:a[e]?.getD 0=cs[e]?.getD 0
    ·refine .inr fun j hj=>?_
     by_cases hje:j=e
     ·rw[hje];exact A2
     ·exact h j (by omega)
    ·exact .inl ⟨e,by omega,by omega,h⟩
def qab (P:List (List Nat)) (st:DSt) (root:Int) (W:List Nat->Bool) (cells:List Nat):Prop:=∀ cs l,Cu P cs->Lu P st cs root l->W l=true->zsf cells cs
structure E4 (P:List (List Nat)) (st:DSt) (W:List Nat->Bool) (root t:Int) (cells:List Nat):Prop where
 leads:iM P st root t cells
 rest:∀ i,tsc P st t<=i->i<P.length->cells[i]?.getD 0=(P[i]?.getD []).headD 0
 tle:tsc P st t<=P.length
 min:∀ cs l,Cu P cs->Lu P st cs root l->W l=true->(∃ i,cells[i]?.getD 0<cs[i]?.getD 0/\i<tsc P st t/\∀ j,j<i->cells[j]?.getD 0=cs[j]?.getD 0)\/((∀ j,j<tsc P st t->cells[j]?.getD 0=cs[j]?.getD 0)/\Lu P st cs t l)
theorem E4.start (hP:∀ p∈P,p.Pairwise (· < ·)) {cells:List Nat} (hc:cells=P.map fun p=>p.headD 0) (ht:tsc P st root<=P.length):E4 P st W root root cells:=by
 have hr:∀ i,i<P.length->cells[i]?.getD 0=(P[i]?.getD []).headD 0:=fun i hi=>by
  rw[hc,List.getElem?_map,Ac hi];rfl
 refine⟨iM.start _,fun i _=>hr i,ht,fun cs l De Kh hw=>?_⟩
 rcases qdz hP De 0 (fun j hj=>absurd hj (Nat.not_lt_zero _)) (tsc P st root) ht (fun j _ hj=>hr j (by omega))with h | h
 ·exact .inl h
 ·exact .inr ⟨h,Kh⟩
theorem Lu.gets {cs:List Nat} {t:Int} {l:List Nat} (h:Lu P st cs t l) (hw:W l=true):Tx st W t:=by
 obtain⟨n,hn,hl⟩:=h.reach;exact⟨n,l,hn,hl,hw⟩
theorem E4.step (hP:∀ p∈P,p.Pairwise (· < ·)) {t:Int} {n sc i c:Nat} {nx:List Int} {cells:List Nat} (h:E4 P st W root (n:Int) cells) (hn:st.nds[n]?=some (sc,nx)) (ht:nx[i]?=some t) (hs:sc<tsc P st t) (Yj:tsc P st t<=P.length) (hc:(P[sc]?.getD [])[i]?=some c) (hl:cells.length=P.length)
  (Xr:∀ j t',j<i->nx[j]?=some t'->¬ Tx st W t'):E4 P st W root t (cells.set sc c):=by
 have D1:sc<P.length:=by omega
 have hp:(P[sc]?.getD []).Pairwise (· < ·):=by
  rw[Ac D1];exact hP _ (List.getElem_mem _)
 have Ru:(P[sc]?.getD []).Nodup:=hp.imp fun h=>Nat.ne_of_lt h
 have e0:∀ j,j≠sc->(cells.set sc c)[j]?.getD 0=cells[j]?.getD 0:=fun j hj=>by rw[List.getElem?_set_ne (Ne.symm hj)]
 have e1:(cells.set sc c)[sc]?.getD 0=c:=by rw[List.getElem?_set_self (by omega)];rfl
 have nQ:tsc P st (n:Int)=sc:=o8 hn;refine⟨h.leads.step hn ht hs hc Ru (by omega),fun j hj Ot=>?_,Yj,fun cs l De Kh hw=>?_⟩
 ·rw[e0 j (by omega)];exact h.rest j (by rw[nQ];omega) Ot
 ·rcases h.min cs l De Kh hw with⟨k,h1,h2,h3⟩ | ⟨h1,h2⟩
  ·rw[nQ]at h2
   exact .inl ⟨k,by rw[e0 k (by omega)];exact h1,by omega,fun j hj=>by rw[e0 j (by omega)];exact h3 j hj⟩
  ·rw[nQ]at h1
   generalize en:(n:Int)=u at h2
   cases h2 with
   | leaf m=>omega
   | node m sc' nx' t' _ g1 g2 g3 =>
    obtain rfl:m=n:=by omega
    rw[hn]at g1;cases g1
    have hm:=De.at D1;obtain⟨k,hk⟩:=Ae ((P[sc]?.getD []).idxOf (cs[sc]?.getD 0));rw[hk]at g2
    have Hc:k<(P[sc]?.getD []).length:=by rw[<- hk];exact List.idxOf_lt_length_of_mem hm
    have X7:(P[sc]?.getD [])[k]?=some (cs[sc]?.getD 0):=by
     rw[Ac Hc]
     congr 1
     have := List.getElem_idxOf (x:=cs[sc]?.getD 0) (xs:=P[sc]?.getD []) (by rw[hk];exact Hc)
     simpa only[hk] using this
    have Mp:i<=k:=Nat.le_of_not_lt fun Aj=>Xr k t' Aj g2 (g3.gets hw)
    by_cases P3:k=i
    ·subst P3
     rw[hc]at X7;have Gg:=Option.some.inj X7;rw[ht]at g2;cases g2
     have hb:∀ j,j<sc+1->(cells.set sc c)[j]?.getD 0=cs[j]?.getD 0:=fun j hj=>by
      by_cases hjs:j=sc
      ·rw[hjs,e1,Gg]
      ·rw[e0 j hjs];exact h1 j (by omega)
     rcases qdz hP De (sc+1) hb (tsc P st t) Yj (fun j zys ztc=>by rw[e0 j (by omega)];exact h.rest j (by rw[nQ];omega) (by omega))with hh | hh
     ·exact .inl hh
     ·exact .inr ⟨hh,g3⟩
    ·refine .inl ⟨sc,?_,by omega,fun j hj=>by rw[e0 j (by omega)];exact h1 j hj⟩
     rw[e1];obtain⟨il,ie⟩:=List.getElem?_eq_some_iff.1 hc;obtain⟨kl,ke⟩:=List.getElem?_eq_some_iff.1 X7;rw[<- ie,<- ke];exact List.pairwise_iff_getElem.1 hp i k il kl (by omega)
theorem E4.least {k:Nat} {cells:List Nat} (h:E4 P st W root (-1-(k:Int)) cells) (hl:cells.length=P.length):qab P st root W cells:=by
 intro cs l De Kh hw
 rcases h.min cs l De Kh hw with⟨i,h1,h2,h3⟩ | ⟨h1,_⟩
 ·exact .inl ⟨i,h1,h3⟩
 ·refine .inr fun j=>?_
  rw[qgz]at h1
  by_cases hj:j<P.length
  ·exact h1 j hj
  ·rw[List.getElem?_eq_none (by omega),List.getElem?_eq_none (by rw[De.1];omega)]
end
theorem zg1 (p:Int->Bool):(fun _=>none:Lit->Option Value)=fN (knF p []):=by
 funext x
 unfold fN knF
 split<;>simp
abbrev qM (T:Nat):Value:=.func (.func 77) #[] (R3 (T+1) T (T+3) (T+4))
abbrev qG (w:World) (dc:Array Value) (gw T:Nat):World:=((((w.alloc (.cells dc 31)).alloc (.cells #[.func (.func gw) #[] #[]] 90)).alloc (.map #[] 0)).alloc (.cells #[.map (some (T+2))] 123)).alloc (.cells #[.nilFunc] 68)
structure zr7 (w:World) (dc:Array Value) (gw T:Nat) (W:World):Prop where
 d:Blk W T dc 31
 g:Blk W (T+1) #[.func (.func gw) #[] #[]] 90
 k:∀ p,Ek W 3 (T+2) 0 (fN (knF p []))
 m:Blk W (T+3) #[.map (some (T+2))] 123
 r:Blk W (T+4) #[qM T] 68
 bel:Below T w W
 size:W.heap.size=T+5
theorem zwx (w:World) (dc:Array Value) (gw T:Nat) (hT:w.heap.size=T):Blk (qG w dc gw T) (T+4) #[.nilFunc] 68/\zr7 w dc gw T ((qG w dc gw T).setCell ⟨T+4,0,none⟩ (qM T)):=by
 subst hT;have b:Below w.heap.size w (qG w dc gw w.heap.size):=(((((Below.refl _ w).alloc (Ab _) _).alloc (by simp) _).alloc (by simp;omega) _).alloc (by simp;omega) _).alloc (by simp;omega) _;have k4:=Blk.new ((((w.alloc (.cells dc 31)).alloc (.cells #[.func (.func gw) #[] #[]] 90)).alloc (.map #[] 0)).alloc (.cells #[.map (some (w.heap.size+2))] 123)) #[.nilFunc] 68;have k3:=(Blk.new (((w.alloc (.cells dc 31)).alloc (.cells #[.func (.func gw) #[] #[]] 90)).alloc (.map #[] 0)) #[.map (some (w.heap.size+2))] 123).alloc (.cells #[.nilFunc] 68);have k1:=(((Blk.new (w.alloc (.cells dc 31)) #[.func (.func gw) #[] #[]] 90).alloc (.map #[] 0)).alloc (.cells #[.map (some (w.heap.size+2))] 123)).alloc (.cells #[.nilFunc] 68);have k0:=((((Blk.new w dc 31).alloc (.cells #[.func (.func gw) #[] #[]] 90)).alloc (.map #[] 0)).alloc (.cells #[.map (some (w.heap.size+2))] 123)).alloc (.cells #[.nilFunc] 68);have k2:=((Ek.made ((w.alloc (.cells dc 31)).alloc (.cells #[.func (.func gw) #[] #[]] 90)) 3).alloc (.cells #[.map (some (w.heap.size+2))] 123)).alloc (.cells #[.nilFunc] 68);simp only[World.size_alloc,Nat.add_assoc,Nat.reduceAdd]at k1 k2 k3 k4;refine⟨k4,k0.other (by omega) _,k1.other (by omega) _,fun p=>?_,k3.other (by omega) _,k4.set _,b.setCell (p:=⟨w.heap.size+4,0,none⟩) (by simp) _,by simp[World.setCell,World.size_alloc]⟩;rw[<- zg1];exact Ek.kept k2 (Fm _ (w.heap.size+4) 0 _) (by simp)
theorem qeo {w0 W:World} {kb:Nat} (h:w0.grownBy W (some kb)) (hk:kb<=w0.heap.size):Below kb w0 W :=
 ⟨h.os,h.tape,h.output,h.size,fun b hb=>h.block b (by omega) (by simp;omega)⟩
theorem gO {w0 W:World} {kb b t:Nat} {cs:Array Value} (h:w0.grownBy W (some kb)) (hq:Blk w0 b cs t) (At:b≠kb):Blk W b cs t:=(h.block b hq.lt (by simpa using At)).trans hq
theorem iB.go {w0 W:World} {K wb db mb rb kb gw:Nat} {x:Dv} {scs:List Sc} {st:DSt} {root:Int} {Wp:List Nat->Bool} (h:iB w0 K wb db mb rb kb gw x scs st root Wp) (hg:w0.grownBy W (some kb)):iB W K wb db mb rb kb gw x scs st root Wp :=
 ⟨gO hg h.w h.n1,gO hg h.d h.n2,gO hg h.m h.n3,gO hg h.r h.n4,h.dg.below ((qeo hg (Nat.le_of_lt h.kl))) h.kk (Ab _),h.dv,h.kk,Nat.lt_of_lt_of_le h.kl hg.size,h.n1,h.n2,h.n3,h.n4,h.eg,h.wc⟩
theorem Kz.step {w0 W W':World} {kb N:Nat} {p:Int->Bool} {r:Option Nat} (h:Kz w0 kb N p W) (hg:W.grownBy W' r) (hk:kb<w0.heap.size) (hr:∀ g,r=some g->w0.heap.size<=g):Kz w0 kb N p W':=by
 have hs:=h.grown.size;obtain⟨D,h1,h2,h3⟩:=h.map;exact⟨⟨hg.os.trans h.grown.os,hg.tape.trans h.grown.tape,hg.output.trans h.grown.output,Nat.le_trans hs hg.size,fun b hb At=>(hg.block b (by omega) (fun e=>absurd (hr b e.symm) (by omega))).trans (h.grown.block b hb At)⟩,D,h1,h2,h3.kept hg (fun e=>by have := hr kb e.symm;omega)⟩
theorem Kz.fresh {w0:World} {kb N:Nat} {p:Int->Bool} (h:∃ D:List Nat,D.Nodup/\(∀ k∈D,k<N)/\Ek w0 3 kb D.length (fN (knF p D))):Kz w0 kb N p w0 :=
 ⟨⟨rfl,rfl,rfl,Ab _,fun _ _ _=>rfl⟩,h⟩
theorem Dt.set {base g n c i x:Nat} {w:World} {l:List Nat} (h:Dt base w (.slice (some ⟨g,0,none⟩) n c) l) (hi:i<l.length):Dt base (w.setCell ⟨g,i,none⟩ (Z x)) (.slice (some ⟨g,0,none⟩) n c) (l.set i x):=by
 obtain⟨_,hr⟩:=h
 rcases hr with⟨hv,h0⟩ | ⟨g',cap,cur,hv,hb,hg,hn,hm,Dn,ht⟩
 ·omega
 simp only[Value.slice.injEq,Option.some.injEq,Addr.mk.injEq,and_true]at hv;obtain⟨rfl,rfl,rfl⟩:=hv;rw[Nat.mul_one]at ht Dn;have Ai:=(show Blk w g cur 3 from hg).set (i:=i) (Z x);unfold Dt;rw[List.length_set];refine⟨by simp,.inr ⟨g,c,_,rfl,hb,Ai,hn,hm,by simp[Dn],?_⟩⟩;rw[Nat.mul_one]
 apply List.ext_getElem?
 intro k
 by_cases hk:k<l.length
 ·have zf8:k<cur.size:=by omega
  have h0:cur[k]?=(l.map Z)[k]? := by
   have := congrArg (·[k]?) ht
   simpa only[List.getElem?_take_of_lt hk,Array.getElem?_toList] using this
  rw[List.getElem?_take_of_lt hk,Array.getElem?_toList,List.getElem?_map]
  by_cases h1:k=i
  ·subst h1
   rw[Array.getElem?_setIfInBounds_self_of_lt zf8,List.getElem?_set_self hk];rfl
  ·rw[Array.getElem?_setIfInBounds_ne (fun e=>h1 e.symm),List.getElem?_set_ne (fun e=>h1 e.symm),h0,List.getElem?_map]
 ·rw[List.getElem?_take_eq_none (by omega),List.getElem?_eq_none (by simp;omega)]
theorem qym {base:Nat} {W:World} {pv:Value} {L:List (List Nat)} {vs:List Value} {F:Nat->Prop} (h:NO base W pv L vs F) {i:Nat} {l:List Nat} (hl:L[i]?=some l) {j c:Nat} (hc:l[j]?=some c) :
  ∃ pb po pm gb go gc,pv=.slice (some ⟨pb,po,none⟩) L.length pm/\vs[i]?=some (.slice (some ⟨gb,go,none⟩) l.length gc)/\W.cell? ⟨pb,po+i,none⟩=some (.slice (some ⟨gb,go,none⟩) l.length gc)/\W.cell? ⟨gb,go+j,none⟩=some (Z c):=by
 have hi:=(List.getElem?_eq_some_iff.1 hl).1;have hj:=(List.getElem?_eq_some_iff.1 hc).1;obtain⟨u,hu⟩:∃ u,vs[i]?=some u:=⟨_,Ac (by rw[h.len];exact hi)⟩;have hn:Ee W.heap.size W u l:=h.get hl hu;obtain⟨gb,go,gc,he,_,_,_,Ba⟩:=Ee.pos hn (by omega);obtain⟨pb,po,pm,Nk,_,_,_,Pj⟩:=h.rows.pos (by omega);have h1:=Pj i hi 0 (by omega);rw[vI (row:=fun _ u=>[u]) hl hu]at h1;have h2:=Ba j hj;rw[hc]at h2;subst he;exact⟨pb,po,pm,gb,go,gc,Nk,hu,by simpa using h1,by simpa using h2⟩
def F9 (scs:List Sc) (st:DSt) (root:Int) (Wp:List Nat->Bool) (B:Nat) (e:Ending) (w':World):Prop :=
 (e=.returned (.tuple #[.slice none 0 0,.bool false])/\¬ Tx st Wp root) ∨
 ∃ v cs l,e=.returned (.tuple #[v,.bool true])/\Dt B w' v cs/\Cu (pcs scs) cs/\Lu (pcs scs) st cs root l/\Wp l=true/\qab (pcs scs) st root Wp cs
end Go.Proofs.YtlldjmagbjjeoaaGreatDoor
