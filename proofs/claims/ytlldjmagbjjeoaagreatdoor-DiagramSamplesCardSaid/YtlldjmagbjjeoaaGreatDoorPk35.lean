/- Contracts and plain laws, several texts in one (DSrch, DCpl). No conditions beyond those stated. -/
import Derived.Test.YtlldjmagbjjeoaaGreatDoorPk34
set_option maxRecDepth 100000
set_option maxHeartbeats 40000000
namespace Go.Proofs.YtlldjmagbjjeoaaGreatDoor
open Go.RowKit
set_option linter.unusedVariables false
theorem qh1 (K:Nat) (x:Dv) (scs:List Sc) (st:DSt) (root:Int) (gw:Nat) (Wp:List Nat->Bool) (w:World) (h:DgX K w x scs st root) (hv:DgV scs st root) (hg:K8 scs) (At:∀ p∈pcs scs,p.Nodup/\p≠[]) (hK:K<=w.heap.size)
  (qwj:∀ args w,(callFunc gw args).run Tryz.prog w=.ok (.enter gw args) w)
  (U8:∀ (W:World) (v:Value) (l:List Nat),Ee W.heap.size W v l->Calls Tryz.prog gw #[v] W fun e W'=>e=.returned (.bool (Wp l))/\W'=W) :
  Calls Tryz.prog 39 #[x.agg,.func (.func gw) #[] #[]] w fun e w'=>F9 scs st root Wp w.heap.size e w'/\Below w.heap.size w w':=by
 obtain⟨p,hp⟩:∃ p:Int->Bool,∀ t,p t=true ↔ Tx st Wp t:=by
  classical
  exact⟨fun t=>decide (Tx st Wp t),fun t=>by simp⟩
 have cL:=@run_makeMap Tryz.prog
 have zwe:∀ (a:Addr) (f:Fn) (b c:Array Value) (m:Mode) (W:World),(store a (.func f b c) m).run Tryz.prog W=stored Tryz.prog W a (.func f b c) m:=fun a f b c m W=>run_store Tryz.prog W a _ m rfl
 obtain⟨T,hT⟩:=Ae w.heap.size;obtain⟨kn,hL⟩:=zwx w x.cells gw T hT;obtain⟨W1,Ah⟩:=Ae (qG w x.cells gw T);obtain⟨W2,Ax⟩:=Ae ((qG w x.cells gw T).setCell ⟨T+4,0,none⟩ (qM T));rw[Ax]at hL;rw[Ah]at kn Ax;obtain⟨n0,n1⟩:=kn.one;have qje:iB W2 K (T+1) T (T+3) (T+4) (T+2) gw x scs st root Wp:=⟨hL.g,hL.d,hL.m,hL.r,h.below hL.bel (by omega) (Ab _),hv,by omega,by rw[hL.size];omega,by omega,by omega,by omega,by omega,qwj,U8⟩;have tK:=qxd W2 K (T+1) T (T+3) (T+4) (T+2) gw x scs st root Wp qje p hp;have zbe:Kz W2 (T+2) st.nds.length p W2:=Kz.fresh ⟨[],List.nodup_nil,fun k hk=>(by cases hk),hL.k p⟩;have qd0:=tK _ root (Ab _) hv.root W2 zbe;obtain⟨⟨sa,sn,sm⟩,⟨na,nn,nm⟩,⟨la,ln,lm⟩,rt⟩:=x;have Gt:rt=root:=h.r;subst Gt;obtain⟨n,hn⟩:=Ae scs.length;have eE:=hv.len;rw[hn]at eE;obtain⟨M,hM⟩:=Ae st.nds.length;rw[hM]at qd0;have HN:=Aa hn;have HM:=Aa hM;have HT:=Aa hT;have Dk:=Aa Ah;have Im:=Aa Ax;have Xl:=Aa qd0;have HS:=Aa h.s;have HL:=Aa hL;have HV:=Aa hv;have HG:=Aa hg;have Rw:=Aa At;have HP:=Aa hp;have zhj:=Aa qje;have c3:W2.cell? ⟨T,3,none⟩=some (.int .i64 rt):=hL.d.at rfl;have c4:W2.cell? ⟨T+4,0,none⟩=some (qM T):=hL.r.at rfl;dsimp only[Dv.agg,Dv.cells,Sl.val]at Dk HL ⊢;rw[hT]at hK ⊢;obtain⟨pr,Yf⟩:=Ae (p rt);rw[Yf]at Xl;have oD:=Aa Yf;clear h hv hg At hp U8 qwj hT hL kn Ah Ax qje tK zbe qd0 hn hM Yf;go_enter Tryz.func39,Tryz.ntmps39
 go_upto_region 3 with fail
 simp only[HT.out,Nat.add_assoc,Nat.reduceAdd];rw[show((((w.alloc (.cells #[.slice sa sn sm,.slice na nn nm,.slice la ln lm,.int .i64 rt] 31)).alloc (.cells #[.func (.func gw) #[] #[]] 90)).alloc (.map #[] 0)).alloc (.cells #[.map (some (T+2))] 123)).alloc (.cells #[.nilFunc] 68)=W1 from Dk.out]
 go_upto_region 4 with fail
 rw[show W1.setCell ⟨T+4,0,none⟩ (.func (.func 77) #[] #[.pointer (some ⟨T+1,0,none⟩),.pointer (some ⟨T,0,none⟩),.pointer (some ⟨T+3,0,none⟩),.pointer (some ⟨T+4,0,none⟩)])=W2 from Im.out];clear n0 n1 cL zwe;go_wp2_with fail
 refine Xl.out.mono ?_;clear Xl c3 c4;rintro en w3 ⟨rfl,Ub⟩;have qvi:=Aa Ub;have b23:Below (T+2) W2 w3:=qeo Ub.grown (by rw[HL.out.size];omega);have bT3:Below T w w3:=HL.out.bel.trans (b23.mono (by omega));have qiq:=Aa bT3
 have Ep:T+5<=w3.heap.size:=by have := Ub.grown.size;rw[HL.out.size]at this;exact this
 cases pr with
 | false =>
  clear Ub b23 bT3;go_wp2_with fail
  refine bodyPost_ret (v:=.tuple #[.slice none 0 0,.bool false]) (by simp[results,Tryz.results39,go_sem]) rfl ?_;exact⟨.inl ⟨rfl,fun j9=>by rw[(HP.out rt).2 j9]at oD;cases oD.out⟩,qiq.out⟩
 | true =>
  have d0:w3.cell? ⟨T,0,none⟩=some (.slice sa sn sm):=(gO Ub.grown HL.out.d (by omega)).at rfl;have D4:=qhn K (.slice sa sn sm) scs w3 (HS.out.below bT3 hK (by omega)) HG.out (by rw[HN.out];omega) (by omega);have O1:=Aa D4;clear D4 Ub b23 bT3;go_wp2_with fail
  refine O1.out.mono ?_;clear O1 d0;rintro en w4 ⟨pv,pvs,F,rfl,Eg,Al⟩;have qqz:scs.map Bf=pcs scs:=rfl;rw[qqz]at Eg;obtain⟨P,hP⟩:=Ae (pcs scs)
  have L8:P.length=n:=by rw[<- hP];unfold pcs;rw[List.length_map];exact HN.out
  rw[hP]at Eg;have Fe:=Eg.read;obtain⟨pa,pc,Sm,En,Vj⟩:=Fe.form;rw[L8]at Sm En;subst Sm;have qzg:=qvi.out.step (r:=none) (wI Al) (by rw[HL.out.size];omega) (fun g hg=>by cases hg);have qt5:=Aa qzg;have Fi:=Al.size;obtain⟨B4,Uc⟩:=Ae w4.heap.size;have Ei:=Aa Uc;rw[Uc]at Fi Fe;have Ko:=Aa hP;have Ja:=Aa L8;have Lk:=Aa Eg;have Q2:=Aa Fe;have qqu:=Aa (qiq.out.trans (Al.mono (by omega)));have qe2:Hid (∀ l∈P,l.Nodup/\l≠[]):=Aa (by rw[<- hP];exact Rw.out);unfold maxLen at Vj;clear qqz Eg Fe qzg Al hP L8 Uc
  go_upto_region 8 with fail
  go_wp2_with fail
  go_loopw [9,27] (fun ov iv wr=>∃ i:Nat,i<=n/\iv=.int .i64 i/\Dt B4 wr ov ((P.take i).map fun l=>l.headD 0)/\Below B4 w4 wr) (fun _ iv _=>n-(intOf iv).toNat)
  case atStart=>exact⟨0,Nat.zero_le _,rfl,Dt.nil _ _,Below.refl _ _⟩
  case round =>
   obtain⟨i,hi,rfl,Av,Cs⟩:=hrel;obtain⟨wo,rfl⟩:∃ wo:World,wo=wr:=⟨_,rfl⟩;obtain⟨oa,oc,Is,qga,zhz⟩:=Av.form
   have Sj:((P.take i).map fun l=>l.headD 0).length=i:=by rw[List.length_map,List.length_take,Ja.out];omega
   obtain⟨cl,Ba⟩:=Ae (((P.take i).map fun l=>l.headD 0));rw[Ba]at Sj Av Is qga;rw[Sj]at Is qga;subst Is;have Hl:=Aa Ba;have K7:=Aa Sj;have Hi:=Aa Av;have Cm:=Aa Cs
   have Jl:B4<=wo.heap.size:=by have := Cs.size;have := Ei.out;omega
   clear Ba Sj Av Cs
   by_cases Aj:i<n
   ·obtain⟨l,hl⟩:∃ l,P[i]?=some l:=⟨_,Ac (by rw[Ja.out];exact Aj)⟩
    have qsw:=(qe2.out l (List.mem_of_getElem? hl)).2
    obtain⟨c,l',rfl⟩:∃ c l',l=c::l':=by cases l with
     | nil=>exact absurd rfl qsw
     | cons a b=>exact⟨a,b,rfl⟩
    obtain⟨pg,Yf,M6⟩:=Q2.out;rw[Ja.out]at Yf M6;obtain⟨pb,po,pcap,Nk,_,_,eM,Pj⟩:=Yf.pos (by omega);simp only[Value.slice.injEq,true_and]at Nk;obtain⟨rfl,rfl⟩:=Nk;have qaa:=M6 i Aj;rw[hl,Option.getD_some]at qaa;obtain⟨gb,go,gc,Nn,_,qci,P9,p9⟩:=Ee.pos qaa (by simp);have e0:wo.cell? ⟨pb,po+i,none⟩=some (.slice (some ⟨gb,go,none⟩) (c::l').length gc):=(Cm.out.cell (p:=⟨pb,po+i,none⟩) eM).trans (by have := Pj i Aj 0 (by omega);rw[Nn]at this;simpa using this);have e1:wo.cell? ⟨gb,go,none⟩=some (.int .i64 (c:Int)):=(Cm.out.cell (p:=⟨gb,go,none⟩) P9).trans (by have := p9 0 (by simp);simpa using this);obtain⟨u,hu⟩:=Ae ((c::l').length)
    have yK:0<u:=by rw[<- hu];simp
    rw[hu]at e0
    have Rh:(P.take (i+1)).map (fun l=>l.headD 0)=cl++[c]:=by rw[List.take_add_one,hl,<- Hl.out];simp
    have Gv:=Aa Rh
    have Jy:cl.length+1<=2^40:=by rw[K7.out];omega
    have dY:=Aa Jy;clear hl qsw Yf M6 Pj qaa Nn p9 hu Rh Jy;go_wp2_with (at_builtin;refine xJ rfl (.tmp 31) (.tmp 35) rfl rfl rfl (Hi.out.old (Af _ _) (Ab _)) ((Blk.new wo #[Z c] _).at rfl) dY.out (by simp;omega) ?_;intro g1 cap1 w5 Hh Bo Ie)
    have Aq:Below B4 w4 w5:=(Cm.out.alloc Jl _).grown Bo (by simp;omega) (fun r hr=>(Or Hi.out hr).1);exact⟨⟨i+1,by omega,by go_num,by rw[Gv.out];exact Hh,Aq⟩,by simp[intOf];omega⟩
   ·obtain rfl:i=n:=by omega
    have quk:Cu P cl:=by
     have := zoe (P:=P) fun l hl=>(qe2.out l hl).2
     rw[<- Hl.out,List.take_of_length_le (by rw[Ja.out];exact Ab _)];exact this
    have qyj:=Aa quk;have O1:Hid (∀ p∈P,p.Pairwise (· < ·)):=Aa (by rw[<- Ko.out];intro q hq;unfold pcs at hq;obtain⟨s,_,rfl⟩:=List.mem_map.1 hq;exact zix s)
    have Gv:Hid (∀ t,TOk st 0 t->tsc P st t<=P.length):=Aa fun t ht=>by
     rcases ht with⟨m,rfl,_⟩ | ⟨m,y,rfl,hy,_⟩
     ·rw[qgz];exact Ab _
     ·rw[o8 (nx:=y.2) hy]
      obtain⟨s,hs,_⟩:=HV.out.node m y.1 y.2 hy;rw[Ja.out,<- HN.out];exact Nat.le_of_lt (List.getElem?_eq_some_iff.1 hs).1
    have zjk:Hid (E4 P st Wp rt rt cl):=Aa (E4.start O1.out (by rw[<- Hl.out,List.take_of_length_le (by rw[Ja.out];exact Ab _)]) (Gv.out rt HV.out.root));have qd6:=qt5.out.step (r:=none) (wI (by rw[Ei.out];exact Cm.out)) (by rw[HL.out.size];omega) (fun g hg=>by cases hg);have qpi:=Aa qd6;have iT:NO w3.heap.size wo (.slice pa i pc) P pvs F:=Lk.out.old Cm.out (by rw[Ei.out];exact Ab _);have zB:=Aa iT
    have HF:Hid (∀ g,(Value.slice oa i oc).ownBlock=some g->B4<=g/\¬ F g/\(Value.slice pa i pc).ownBlock≠some g):=Aa fun g hg=>by
     have h1:=(Or Hi.out hg).1;refine⟨h1,fun hF=>?_,fun e=>?_⟩
     ·have := (Lk.out.rng g hF).2;have := Ei.out;omega
     ·have := Lk.out.own.lt e;have := Ei.out;omega
    have qfk:T+5<=wo.heap.size:=by omega
    have d3:wo.cell? ⟨T,3,none⟩=some (.int .i64 rt):=(gO qd6.grown HL.out.d (by omega)).at rfl;have qoc:Below T w wo:=qqu.out.trans (Cm.out.mono (by omega));have E6:=Aa qoc;obtain⟨wl,qvz⟩:∃ wl:World,wl=wo:=⟨_,rfl⟩;have qqw:=Aa qvz;clear quk qd6 iT qoc qvz;go_wp2_with fail
    go_loopw [12] (fun tv wr=>∃ (t:Int) (cs:List Nat),tv=.int .i64 t/\Hid (TOk st 0 t)/\Hid (p t=true)/\Hid (Cu P cs)/\Hid (E4 P st Wp rt t cs)/\Hid (Kz W2 (T+2) M p wr)/\Hid (Dt B4 wr (.slice oa i oc) cs)/\Hid (NO w3.heap.size wr (.slice pa i pc) P pvs F)) (fun tv _=>dmz st i (intOf tv))
    case atStart=>exact⟨rt,cl,rfl,Aa HV.out.root,oD,qyj,zjk,qpi,Hi,zB⟩
    case round =>
     clear qvi qt5 qpi zB Hi Cm qyj Hl K7 Lk Q2 E6 qqu qiq d3 Jl qfk zhz qga;obtain⟨t,cs,rfl,zrx,nV,dM,qe7,wQ,Vm,qgl⟩:=hrel;obtain⟨wq,rfl⟩:∃ wq:World,wq=wr:=⟨_,rfl⟩;have oT:=zhj.out.go wQ.out.grown
     have jar:T+5<=wq.heap.size:=by have := wQ.out.grown.size;rw[HL.out.size]at this;exact this
     have Ba:cs.length=i:=by rw[dM.out.1];exact Ja.out
     have iJ:=Aa Ba;clear Ba
     by_cases ht:0<=t
     ·obtain⟨k,y,rfl,hk,_⟩:∃ (k:Nat) (y:Nat × List Int),t=(k:Int)/\st.nds[k]?=some y/\0<=y.1:=by
       rcases zrx.out with⟨m,rfl,_⟩ | ⟨k,y,rfl,hk,hy⟩
       ·omega
       ·exact⟨k,y,rfl,hk,hy⟩
      obtain⟨sc,nx⟩:=y
      have pM:k<M:=by rw[<- HM.out];exact(List.getElem?_eq_some_iff.1 hk).1
      obtain⟨s,hs,Et,Ea⟩:=HV.out.node k sc nx hk
      have gR:sc<i:=by rw[<- HN.out];exact(List.getElem?_eq_some_iff.1 hs).1
      have qZ:P[sc]?=some (Bf s):=by rw[<- Ko.out];unfold pcs;rw[List.getElem?_map,hs];rfl
      obtain⟨t1,Nf,xE⟩:=(qyk hk).1 ((HP.out _).1 nV.out);have qlj:nx.any p=true:=List.any_eq_true.2 ⟨t1,Nf,(HP.out t1).2 xE⟩;obtain⟨ix,lV⟩:=Ae (nx.findIdx p)
      have mK:ix<nx.length:=by rw[<- lV];exact List.findIdx_lt_length_of_exists (by simpa using qlj)
      obtain⟨t',Ua⟩:∃ t',nx[ix]?=some t':=⟨_,Ac mK⟩
      have qpx:p t'=true:=by
       obtain⟨hl,he⟩:=List.getElem?_eq_some_iff.1 Ua;rw[<- he];have := List.findIdx_getElem (p:=p) (xs:=nx) (w:=by rw[lV];exact hl)
       simpa only[lV] using this
      have qV:C5 p nx=(ix:Int):=by unfold C5;rw[if_pos qlj,lV]
      obtain⟨c,hc⟩:∃ c,(Bf s)[ix]?=some c:=⟨_,Ac (by rw[<- Et];exact mK)⟩;have Fl:c∈Bf s:=List.mem_of_getElem? hc;have uF:=Ea t' (List.mem_of_getElem? Ua);have A9:=qvo (n:=i) hk gR uF
      have qra:sc<tsc P st t':=by
       rcases uF with⟨m,rfl,_⟩ | ⟨m,y,rfl,hy,Bt⟩
       ·rw[qgz,Ja.out];exact gR
       ·rw[o8 (nx:=y.2) hy];omega
      have Ru:=(qe2.out _ (List.mem_of_getElem? qZ)).1;have qnk:TOk st 0 t':=uF.mono (Ext.refl _) (Nat.zero_le (sc+1))
      have zbq:E4 P st Wp rt t' (cs.set sc c):=qe7.out.step O1.out hk Ua qra (Gv.out t' qnk) (by rw[qZ];exact hc) (by rw[iJ.out,Ja.out]) (fun j u hj hu hg=>by
       obtain⟨qhd,zpv⟩:=List.getElem?_eq_some_iff.1 hu;have S0:=List.not_of_lt_findIdx (p:=p) (xs:=nx) (i:=j) (by rw[lV];exact hj);have qxx:=(HP.out u).2 hg;rw[<- zpv]at qxx
       exact absurd qxx (by simpa using S0))
      clear qnk;have qur:Cu P (cs.set sc c):=Cu.set dM.out qZ Fl;have qyt:=uF.mono (Ext.refl _) (Nat.zero_le (sc+1));obtain⟨ng,Mj,Zu⟩:=oT.dg.n;obtain⟨b,o,cap,he,_,_,Cj,Ba⟩:=Mj.pos (by rw[HM.out];omega);dsimp only[Sl.val]at he;simp only[Value.slice.injEq]at he;obtain⟨rfl,qze,_⟩:=he
      have dR:k<nn:=by rw[qze,HM.out];exact pM
      have Hc:k<st.nds.length:=by rw[HM.out];exact pM
      have e0:wq.cell? ⟨b,o+k*2,none⟩=some (.int .i64 sc):=by have := Ba k Hc 0 (by omega);rw[hk]at this;simpa using this
      have e1:wq.cell? ⟨b,o+k*2+1,none⟩=some (ng k):=by have := Ba k Hc 1 (by omega);rw[Nat.add_assoc];simpa using this
      have Lb:=Zu k Hc;rw[hk]at Lb;dsimp only[Option.getD_some]at Lb;obtain⟨xb,xo,xc,C2,Pq,Ng,aX,Vp⟩:=Au.pos Lb (Nat.lt_of_le_of_lt (Nat.zero_le _) mK);rw[C2]at e1;obtain⟨u,hu⟩:=Ae nx.length;rw[hu]at e1;have g1:wq.cell? ⟨T,1,none⟩=some (.slice (some ⟨b,o,none⟩) nn nm):=oT.d.at rfl;obtain⟨A0,Kt⟩:=Ae wq.heap.size;obtain⟨W5,Ez⟩:∃ W,wq.alloc (.cells #[.int .i64 sc,.slice (some ⟨xb,xo,none⟩) u xc] 97)=W:=⟨_,rfl⟩
      have b5:Below A0 wq W5:=by rw[<- Ez,<- Kt];exact Af _ _
      have q5:Blk W5 A0 #[.int .i64 sc,.slice (some ⟨xb,xo,none⟩) u xc] 97:=by rw[<- Ez,<- Kt];exact Blk.new wq _ _
      have Bo:wq.grownBy W5 none:=by rw[<- Ez];exact World.grownBy_alloc wq _ none
      have qf2:=oT.go (oG Bo);have qeg:=wQ.out.step Bo (by rw[HL.out.size];omega) (fun g hg=>by cases hg);have qsd:Kz W5 (T+2) st.nds.length p W5:=Kz.fresh (by rw[HM.out];exact qeg.map);have k0:W5.cell? ⟨T+4,0,none⟩=some (qM T):=qf2.r.at rfl
      have zhr:K<=A0:=by omega
      have qkm:∀ j,j<nx.length->W5.cell? ⟨xb,xo+j,none⟩=some (.int .i64 (nx[j]?.getD 0)):=fun j hj=>(b5.cell (p:=⟨xb,xo+j,none⟩) (Nat.lt_of_lt_of_le aX zhr)).trans (by have := Vp j hj 0 (by omega);simpa using this)
      have kJ:zI (Kz W5 (T+2) st.nds.length p) (.slice (some ⟨xb,xo,none⟩) nx.length xc) nx :=
       ⟨⟨_,xc,rfl,Pq,Ng⟩,fun _=>⟨xb,xo,xc,rfl,fun V hV j hj=>Xf hV.grown (by omega) (qkm j hj)⟩⟩
      have tK:=qxd W5 K (T+1) T (T+3) (T+4) (T+2) gw _ scs st rt Wp qf2 p HP.out;have Ao:=qt1 77 (R3 (T+1) T (T+3) (T+4)) (enters_of Tryz.func77 (by kernel_rfl) rfl) nx p _ (Kz W5 (T+2) st.nds.length p) kJ (fun t ht W hW=>tK _ t (Ab _) ((Ea t ht).mono (Ext.refl _) (Nat.zero_le _)) W hW) W5 qsd;rw[qV,HM.out,hu]at Ao
      have k5:W5.cell? ⟨xb,xo+ix,none⟩=some (.int .i64 t'):=by have := qkm ix mK;rw[Ua]at this;exact this
      have zxz:ix<u:=by rw[<- hu];exact mK
      rw[hu]at Pq;unfold maxLen at Ng;obtain⟨m0,m1⟩:=q5.two;have Dl:=Aa Ao;have Wb:=Aa Ez;have J8:=Aa Kt;have Hf:=Aa b5;have Jq:=Aa q5;have zy2:=Aa qyt;have zze:=Aa qpx;have zq5:=Aa zbq;have zfu:=Aa qur;have ze6:=Aa A9;have zwk:=Aa qeg;have qq6:Hid (xb<K):=Aa aX;have qpq:=Aa qZ;have Kj:=Aa hc;have t0:decide ((0:Int)<=(k:Int))=true:=decide_eq_true (by omega)
      have jX:T+5<=A0:=by omega
      clear ht hk pM hs Et Ea qZ Nf xE qlj lV mK Ua qpx qV hc Fl uF A9 qra Ru zbq qur qyt Mj Zu Ba qze Hc Lb C2 Vp hu Kt Ez b5 q5 Bo qf2 qeg qsd qkm kJ tK Ao oT aX Cj
      go_upto_region 16 with fail
      rw[Wb.out];rw[J8.out];go_wp2_with fail
      refine Dl.out.mono ?_;clear Dl e0 e1 g1 t0;rintro en w6 ⟨rfl,gI⟩;have qq3:Kz W2 (T+2) M p w6:=⟨Xm zwk.out.grown gI.grown,gI.map⟩;have q6:Blk w6 A0 #[.int .i64 sc,.slice (some ⟨xb,xo,none⟩) u xc] 97:=gO gI.grown Jq.out (by omega);have k6:w6.cell? ⟨xb,xo+ix,none⟩=some (.int .i64 t'):=Xf gI.grown (by have := qq6.out;omega) k5;have no6:NO w3.heap.size w6 (.slice pa i pc) P pvs F:=(qgl.out.old Hf.out (by rw[J8.out];exact Ab _)).kept gI.grown (fun b e hF=>by cases e;have := (qgl.out.rng _ hF).1;omega) (fun b e hv=>by cases e;have := qgl.out.own.low hv;omega);have ow6:Dt B4 w6 (.slice oa i oc) cs:=(Vm.out.old Hf.out (by rw[J8.out];exact Ab _)).kept gI.grown (.inr fun e=>by have := (HF.out _ e).1;omega)
      obtain⟨g,iO⟩:∃ g,oa=some ⟨g,0,none⟩:=by
       rcases ow6.2 with⟨hv,h0⟩ | ⟨g',cap',cur',hv,_⟩
       ·have := iJ.out;omega
       ·simp only[Value.slice.injEq]at hv;exact⟨g',hv.1⟩
      subst iO;obtain⟨zx9,qbx,qb2⟩:=HF.out g rfl
      obtain⟨cur,oC⟩:∃ cur,Blk w6 g cur 3:=by
       rcases ow6.2 with⟨hv,h0⟩ | ⟨g',cap',cur',hv,_,zuq,_⟩
       ·have := iJ.out;omega
       ·simp only[Value.slice.injEq,Option.some.injEq,Addr.mk.injEq,and_true]at hv
        obtain⟨rfl,_⟩:=hv;exact⟨cur',zuq⟩
      have s1:w6.frozen? ⟨g,sc,none⟩=false:=oC.free sc
      obtain⟨oldc,s0⟩:∃ v:Int,w6.cell? ⟨g,sc,none⟩=some (.int .i64 v):=by
       obtain⟨gb,go,gc,he,_,_,_,Em⟩:=Ee.pos ow6.nats (by rw[iJ.out];omega);simp only[Value.slice.injEq,Option.some.injEq,Addr.mk.injEq,and_true]at he;obtain⟨⟨rfl,rfl⟩,_⟩:=he;have := Em sc (by rw[iJ.out];exact gR);exact⟨_,by simpa using this⟩
      obtain⟨pb,po,pm,gb,go,gc,Mw,qen,f0,f1⟩:=qym no6 qpq.out Kj.out;simp only[Value.slice.injEq]at Mw;obtain⟨rfl,R6,rfl⟩:=Mw;clear R6;obtain⟨ln2,o6⟩:∃ q,(Bf s).length=q:=⟨_,rfl⟩
      have zy9:ix<ln2:=by rw[<- o6];exact(List.getElem?_eq_some_iff.1 Kj.out).1
      rw[o6]at f0 qen
      have zch:g≠A0:=fun e=>by have := cU Vm.out (r:=g) rfl;have := J8.out;omega
      have Ct:w6.grownBy (w6.setCell ⟨g,sc,none⟩ (Z c)) (some g):=Fm _ _ _ _;have no7:NO w3.heap.size (w6.setCell ⟨g,sc,none⟩ (Z c)) (.slice (some ⟨pb,po,none⟩) i pc) P pvs F:=no6.kept Ct (fun b e hF=>by cases e;exact qbx hF) (fun b e hv=>by cases e;exact qb2 hv);have ow7:Dt B4 (w6.setCell ⟨g,sc,none⟩ (Z c)) (.slice (some ⟨g,0,none⟩) i oc) (cs.set sc c):=Dt.set ow6 (by rw[iJ.out];exact gR);have n1:w6.cell? ⟨A0,0,none⟩=some (.int .i64 sc):=q6.at rfl;have qit:Hid (w6.cell? ⟨A0,0,none⟩=some (.int .i64 sc)/\w6.cell? ⟨pb,po+sc,none⟩=some (.slice (some ⟨gb,go,none⟩) ln2 gc)/\w6.cell? ⟨gb,go+ix,none⟩=some (Z c)):=Aa ⟨n1,f0,f1⟩
      have qn4:Hid ((w6.setCell ⟨g,sc,none⟩ (Z c)).cell? ⟨A0,0,none⟩=some (.int .i64 sc)/\(w6.setCell ⟨g,sc,none⟩ (Z c)).cell? ⟨pb,po+sc,none⟩=some (.slice (some ⟨gb,go,none⟩) ln2 gc)/\(w6.setCell ⟨g,sc,none⟩ (Z c)).cell? ⟨gb,go+ix,none⟩=some (Z c)):=by
       obtain⟨pb',po',pm',gb',go',gc',qo3,qap,f0',f1'⟩:=qym no7 qpq.out Kj.out;simp only[Value.slice.injEq,Option.some.injEq,Addr.mk.injEq,and_true]at qo3;obtain⟨⟨rfl,rfl⟩,_,rfl⟩:=qo3;rw[o6]at f0' qap;rw[qen]at qap;simp only[Option.some.injEq,Value.slice.injEq,Addr.mk.injEq,and_true,true_and]at qap;obtain⟨⟨rfl,rfl⟩,rfl⟩:=qap;exact Aa ⟨Xf Ct (Ne.symm zch) n1,f0',f1'⟩
      have n7:(w6.setCell ⟨g,sc,none⟩ (Z c)).cell? ⟨A0,1,none⟩=some (.slice (some ⟨xb,xo,none⟩) u xc):=Xf Ct (Ne.symm zch) (q6.at rfl);have k7:(w6.setCell ⟨g,sc,none⟩ (Z c)).cell? ⟨xb,xo+ix,none⟩=some (.int .i64 t'):=Xf Ct (by have := qq6.out;omega) k6;have ri7:=qq3.step Ct (by rw[HL.out.size];omega) (fun b e=>by cases e;rw[HL.out.size];omega);have zec:=Aa ri7;have zea:=Aa ow7;have znd:=Aa no7;have zlr:=Aa n7;have zlf:=Aa k7;clear qq3 q6 k6 no6 ow6 oC qen f0 f1 o6 Ct no7 ow7 n1 n7 k7 ri7 gI m0 m1 k0 k5 qbx qb2
      go_upto_region 17 with fail
      refine Fz (fun W'=>W'.cell? ⟨A0,0,none⟩=some (.int .i64 sc)/\W'.cell? ⟨pb,po+sc,none⟩=some (.slice (some ⟨gb,go,none⟩) ln2 gc)/\W'.cell? ⟨gb,go+ix,none⟩=some (Z c)) [] (by kernel_rfl) ?_;have qS:(fun W':World=>W'.cell? ⟨A0,0,none⟩=some (.int .i64 sc)/\W'.cell? ⟨pb,po+sc,none⟩=some (.slice (some ⟨gb,go,none⟩) ln2 gc)/\W'.cell? ⟨gb,go+ix,none⟩=some (Z c)) w6.drew:=qit.out;refine Am (i:=0) (v:=.slice (some ⟨g,0,none⟩) i oc) rfl qS ?_;refine Am (i:=1) (v:=.pointer (some ⟨A0,0,none⟩)) rfl qS ?_;refine Ar (i:=2) (v:=.int .i64 sc) rfl (.inl ⟨by kernel_rfl,fun W' hS=>by obtain⟨x0,x1,x2⟩:=hS;go_simp⟩) qS ?_;refine Am (i:=3) (v:=.slice (some ⟨pb,po,none⟩) i pc) rfl qS ?_;refine Am (i:=4) (v:=.pointer (some ⟨A0,0,none⟩)) rfl qS ?_;refine Ar (i:=5) (v:=.int .i64 sc) rfl (.inl ⟨by kernel_rfl,fun W' hS=>by obtain⟨x0,x1,x2⟩:=hS;go_simp⟩) qS ?_;refine Am (i:=6) (v:=.pointer (some ⟨pb,po+sc,none⟩)) rfl qS ?_;refine Ar (i:=7) (v:=.slice (some ⟨gb,go,none⟩) ln2 gc) rfl (.inl ⟨by kernel_rfl,fun W' hS=>by obtain⟨x0,x1,x2⟩:=hS;go_simp⟩) qS ?_;refine Am (i:=8) (v:=.int .i64 ix) rfl qS ?_;refine Am (i:=9) (v:=.pointer (some ⟨gb,go+ix,none⟩)) rfl qS ?_;refine Ar (i:=10) (v:=.int .i64 c) rfl (.inl ⟨by kernel_rfl,fun W' hS=>by obtain⟨x0,x1,x2⟩:=hS;go_simp⟩) qS ?_;refine Am (i:=11) (v:=.pointer (some ⟨g,sc,none⟩)) rfl qS ?_;refine Ap (i:=12) rfl ?_;go_simp
      refine⟨⟨qit.out.1,qn4.out.2⟩,?_⟩;refine Eo (by kernel_rfl) ?_ _;obtain⟨W7,M8⟩:=Ae (w6.setCell ⟨g,sc,none⟩ (.int .i64 (c:Int)));have zzl:=Aa M8
      have j1:W7.cell? ⟨A0,1,none⟩=some (.slice (some ⟨xb,xo,none⟩) u xc):=by rw[<- M8];exact zlr.out
      have j2:W7.cell? ⟨xb,xo+ix,none⟩=some (.int .i64 t'):=by rw[<- M8];exact zlf.out
      have r7:=zec.out;have o7:=zea.out;have n7:=znd.out;rw[show w6.setCell ⟨g,sc,none⟩ (Z c)=W7 from M8]at r7 o7 n7;have R7:=Aa r7;have O7:=Aa o7;have N7:=Aa n7;rw[M8];clear M8 r7 o7 n7 s0 s1 qn4;go_simp
      go_wp2_with fail
      have M1:Below W7.heap.size W7 W7.drew:=Gn (Below.refl _ _) 1;have R8:Kz W2 (T+2) M p W7.drew:=R7.out.drewN 1;have O8:Dt B4 W7.drew (.slice (some ⟨g,0,none⟩) i oc) (cs.set sc c):=O7.out.old M1 (Ab _);have N8:NO w3.heap.size W7.drew (.slice (some ⟨pb,po,none⟩) i pc) P pvs F:=N7.out.old M1 (Ab _);exact⟨⟨cs.set sc c,zfu,zq5,Aa R8,Aa O8,Aa N8⟩,ze6.out⟩
     ·obtain⟨k,rfl⟩:∃ k:Nat,t = -1-(k:Int):=⟨(-1-t).toNat,by omega⟩
      obtain⟨l,hl,hw⟩:=qwf.1 ((HP.out _).1 nV.out);have Kh:=qe7.out.leads cs l (fun _ _=>rfl) (.leaf k l hl);have zus:=Aa (qe7.out.least (by rw[iJ.out,Ja.out]));have qlr:=Aa Kh;have qqw:=Aa hw;have t0:decide ((0:Int) <= -1-(k:Int))=false:=decide_eq_false (by omega);clear hl hw Kh oT ht;go_wp2_with fail
      refine bodyPost_ret (v:=.tuple #[.slice oa i oc,.bool true]) (by simp[results,Tryz.results39,go_sem]) rfl ?_;exact⟨.inr ⟨_,cs,l,rfl,Dt.mono Vm.out (by have := HL.out.size;omega),by rw[Ko.out];exact dM.out,by rw[Ko.out];exact qlr.out,qqw.out,by rw[Ko.out];exact zus.out⟩,HL.out.bel.trans ((qeo wQ.out.grown (by rw[HL.out.size];omega)).mono (by omega))⟩
theorem zvd (W:World) (v:Value) (l:List Nat) (h:Ee W.heap.size W v l):Calls Tryz.prog 41 #[v] W fun e W'=>e=.returned (.bool (l.length==0))/\W'=W:=by
 obtain⟨a,c,rfl,hl,hc⟩:=h.form;obtain⟨n,hn⟩:=Ae l.length;rw[hn]at hl ⊢;clear hn h;unfold maxLen at hc;go_enter Tryz.func41,Tryz.ntmps41
 go_wp2_with fail
 go_ret
 refine⟨congrArg (fun b=>Ending.returned (.bool b)) (show((n:Int)==0)=(n==0)from ?_),rfl⟩;rw[Bool.eq_iff_iff];simp
theorem zmx (args:Array Value) (w:World):(callFunc 41 args).run Tryz.prog w=.ok (.enter 41 args) w:=enters_of Tryz.func41 (by kernel_rfl) rfl args w
theorem qe8 (K:Nat) (x:Dv) (scs:List Sc) (st:DSt) (root:Int) (w:World) (h:DgX K w x scs st root) (hv:DgV scs st root) (hg:K8 scs) (At:∀ p∈pcs scs,p.Nodup/\p≠[]) (hK:K<=w.heap.size) :
  Calls Tryz.prog 16 #[x.agg] w fun e w'=>F9 scs st root (fun l=>l.length==0) w.heap.size e w'/\Below w.heap.size w w':=by
 obtain⟨W1,Ah⟩:=Ae (w.alloc (.cells x.cells 31))
 have b1:Below w.heap.size w W1:=by rw[<- Ah];exact Af _ _
 have q1:Blk W1 w.heap.size x.cells 31:=by rw[<- Ah];exact Blk.new w _ _
 have s1:W1.heap.size=w.heap.size+1:=by rw[<- Ah];simp
 have Hj:=uK K x scs st root W1 (h.below b1 hK (Ab _)) hv hg (by omega)
 have Fh:∀ W2,Below W1.heap.size W1 W2->Calls Tryz.prog 39 #[x.agg,.func (.func 41) #[] #[]] W2 fun e w'=>F9 scs st root (fun l=>l.length==0) W2.heap.size e w'/\Below W2.heap.size W2 w':=fun W2 hb =>
  qh1 K x scs st root 41 _ W2 (h.below (b1.trans (hb.mono (by omega))) hK (Ab _)) hv hg At (by have := hb.size;omega) zmx zvd
 obtain⟨⟨sa,sn,sm⟩,⟨na,nn,nm⟩,⟨la,ln,lm⟩,rt⟩:=x;obtain⟨T,hT⟩:=Ae w.heap.size;dsimp only[Dv.agg,Dv.cells,Sl.val]at Hj Fh Ah q1 ⊢;rw[hT]at b1 q1 s1 ⊢;have HT:=Aa hT;have HW:=Aa Ah;have Bi:=Aa b1;have Bc:=Aa q1;have S1:=Aa s1;have Up:=Aa Hj;have F4:=Aa Fh;obtain⟨c0,c1,c2,c3⟩:=q1.four;clear h hv hg At Hj Fh hT Ah b1 q1 s1;go_enter Tryz.func16,Tryz.ntmps16
 go_upto_region 1 with fail
 simp only[HT.out];rw[HW.out];go_wp2_with fail
 refine Up.out.mono ?_;clear Up c0 c1 c2 c3;rintro en w2 ⟨rfl,Ai⟩;have hs:=F4.out w2 Ai;have HS:=Aa hs;have Dz:=Bc.out.below Ai (by rw[S1.out];omega);obtain⟨c0,c1,c2,c3⟩:=Dz.four;have K3:Below T w w2:=Bi.out.trans (Ai.mono (by rw[S1.out];omega));have Fd:=Aa K3
 have Az:T<=w2.heap.size:=by have := Ai.size;have := S1.out;omega
 clear hs Dz Ai K3;go_wp2_with fail
 refine HS.out.mono ?_;clear HS;rintro en w3 ⟨Qn,Ak⟩;have Do:=Aa (Fd.out.trans (Ak.mono Az))
 rcases Qn with⟨rfl,Eg⟩ | ⟨v,cs,l,rfl,ho,Ik,Kh,hw⟩
 ·have Lk:=Aa Eg
  clear Eg Ak;go_wp2_with fail
  refine bodyPost_ret (v:=.tuple #[.slice none 0 0,.bool false]) (by simp[results,Tryz.results16,go_sem]) rfl ?_;exact⟨.inl ⟨rfl,Lk.out⟩,Do.out⟩
 ·have HQ:Hid (Dt T w3 v cs/\Cu (pcs scs) cs/\Lu (pcs scs) st cs root l/\(l.length==0)=true/\qab (pcs scs) st root (fun l=>l.length==0) cs):=Aa ⟨Dt.mono ho Az,Ik,Kh,hw⟩
  obtain⟨va,vc,rfl,_,_⟩:=ho.form;obtain⟨vn,Ss⟩:=Ae cs.length;rw[Ss]at HQ;rw[Ss];clear ho Ik Kh hw Ak Ss;go_wp2_with fail
  refine bodyPost_ret (v:=.tuple #[.slice va vn vc,.bool true]) (by simp[results,Tryz.results16,go_sem]) rfl ?_;exact⟨.inr ⟨_,cs,l,rfl,HQ.out⟩,Do.out⟩
theorem zje (W:World) (v:Value) (l:List Nat) (h:Ee W.heap.size W v l):Calls Tryz.prog 42 #[v] W fun e W'=>e=.returned (.bool (decide (1<l.length)))/\W'=W:=by
 obtain⟨a,c,rfl,hl,hc⟩:=h.form;obtain⟨n,hn⟩:=Ae l.length;rw[hn]at hl ⊢;clear hn h;unfold maxLen at hc;go_enter Tryz.func42,Tryz.ntmps42
 go_wp2_with fail
 go_ret
 refine⟨congrArg (fun b=>Ending.returned (.bool b)) (show decide ((1:Int)<(n:Int))=decide (1<n)from ?_),rfl⟩;rw[Bool.eq_iff_iff];simp;omega
theorem zrw (args:Array Value) (w:World):(callFunc 42 args).run Tryz.prog w=.ok (.enter 42 args) w:=enters_of Tryz.func42 (by kernel_rfl) rfl args w
theorem zj3 (K:Nat) (x:Dv) (scs:List Sc) (st:DSt) (root:Int) (w:World) (h:DgX K w x scs st root) (hv:DgV scs st root) (hg:K8 scs) (At:∀ p∈pcs scs,p.Nodup/\p≠[]) (hK:K<=w.heap.size) :
  Calls Tryz.prog 17 #[x.agg] w fun e w'=>F9 scs st root (fun l=>decide (1<l.length)) w.heap.size e w'/\Below w.heap.size w w':=by
 obtain⟨W1,Ah⟩:=Ae (w.alloc (.cells x.cells 31))
 have b1:Below w.heap.size w W1:=by rw[<- Ah];exact Af _ _
 have q1:Blk W1 w.heap.size x.cells 31:=by rw[<- Ah];exact Blk.new w _ _
 have s1:W1.heap.size=w.heap.size+1:=by rw[<- Ah];simp
 have Hj:=uK K x scs st root W1 (h.below b1 hK (Ab _)) hv hg (by omega)
 have Fh:∀ W2,Below W1.heap.size W1 W2->Calls Tryz.prog 39 #[x.agg,.func (.func 42) #[] #[]] W2 fun e w'=>F9 scs st root (fun l=>decide (1<l.length)) W2.heap.size e w'/\Below W2.heap.size W2 w':=fun W2 hb =>
  qh1 K x scs st root 42 _ W2 (h.below (b1.trans (hb.mono (by omega))) hK (Ab _)) hv hg At (by have := hb.size;omega) zrw zje
 obtain⟨⟨sa,sn,sm⟩,⟨na,nn,nm⟩,⟨la,ln,lm⟩,rt⟩:=x;obtain⟨T,hT⟩:=Ae w.heap.size;dsimp only[Dv.agg,Dv.cells,Sl.val]at Hj Fh Ah q1 ⊢;rw[hT]at b1 q1 s1 ⊢;have HT:=Aa hT;have HW:=Aa Ah;have Bi:=Aa b1;have Bc:=Aa q1;have S1:=Aa s1;have Up:=Aa Hj;have F4:=Aa Fh;obtain⟨c0,c1,c2,c3⟩:=q1.four;clear h hv hg At Hj Fh hT Ah b1 q1 s1;go_enter Tryz.func17,Tryz.ntmps17
 go_upto_region 1 with fail
 simp only[HT.out];rw[HW.out];go_wp2_with fail
 refine Up.out.mono ?_;clear Up c0 c1 c2 c3;rintro en w2 ⟨rfl,Ai⟩;have hs:=F4.out w2 Ai;have HS:=Aa hs;have Dz:=Bc.out.below Ai (by rw[S1.out];omega);obtain⟨c0,c1,c2,c3⟩:=Dz.four;have K3:Below T w w2:=Bi.out.trans (Ai.mono (by rw[S1.out];omega));have Fd:=Aa K3
 have Az:T<=w2.heap.size:=by have := Ai.size;have := S1.out;omega
 clear hs Dz Ai K3;go_wp2_with fail
 refine HS.out.mono ?_;clear HS;rintro en w3 ⟨Qn,Ak⟩;have Do:=Aa (Fd.out.trans (Ak.mono Az))
 rcases Qn with⟨rfl,Eg⟩ | ⟨v,cs,l,rfl,ho,Ik,Kh,hw⟩
 ·have Lk:=Aa Eg
  clear Eg Ak;go_wp2_with fail
  refine bodyPost_ret (v:=.tuple #[.slice none 0 0,.bool false]) (by simp[results,Tryz.results17,go_sem]) rfl ?_;exact⟨.inl ⟨rfl,Lk.out⟩,Do.out⟩
 ·have HQ:Hid (Dt T w3 v cs/\Cu (pcs scs) cs/\Lu (pcs scs) st cs root l/\(decide (1<l.length))=true/\qab (pcs scs) st root (fun l=>decide (1<l.length)) cs):=Aa ⟨Dt.mono ho Az,Ik,Kh,hw⟩
  obtain⟨va,vc,rfl,_,_⟩:=ho.form;obtain⟨vn,Ss⟩:=Ae cs.length;rw[Ss]at HQ;rw[Ss];clear ho Ik Kh hw Ak Ss;go_wp2_with fail
  refine bodyPost_ret (v:=.tuple #[.slice va vn vc,.bool true]) (by simp[results,Tryz.results17,go_sem]) rfl ?_;exact⟨.inr ⟨_,cs,l,rfl,HQ.out⟩,Do.out⟩
theorem zj1 (W:World) (v:Value) (l:List Nat) (h:Ee W.heap.size W v l):Calls Tryz.prog 40 #[v] W fun e W'=>e=.returned (.bool (l.length != 1))/\W'=W:=by
 obtain⟨a,c,rfl,hl,hc⟩:=h.form;obtain⟨n,hn⟩:=Ae l.length;rw[hn]at hl ⊢;clear hn h;unfold maxLen at hc;go_enter Tryz.func40,Tryz.ntmps40
 go_wp2_with fail
 go_ret
 refine⟨congrArg (fun b=>Ending.returned (.bool b)) (show((n:Int) != 1)=(n != 1)from ?_),rfl⟩;rw[Bool.eq_iff_iff];simp;omega
theorem zr3 (args:Array Value) (w:World):(callFunc 40 args).run Tryz.prog w=.ok (.enter 40 args) w:=enters_of Tryz.func40 (by kernel_rfl) rfl args w
theorem qxu (K:Nat) (x:Dv) (scs:List Sc) (st:DSt) (root:Int) (w:World) (h:DgX K w x scs st root) (hv:DgV scs st root) (hg:K8 scs) (At:∀ p∈pcs scs,p.Nodup/\p≠[]) (hK:K<=w.heap.size) :
  Calls Tryz.prog 15 #[x.agg] w fun e w'=>(∃ r:Bool,e=.returned (.bool r)/\(r=true ↔ ¬ Tx st (fun l=>l.length != 1) root))/\Below w.heap.size w w':=by
 obtain⟨W1,Ah⟩:=Ae (w.alloc (.cells x.cells 31))
 have b1:Below w.heap.size w W1:=by rw[<- Ah];exact Af _ _
 have q1:Blk W1 w.heap.size x.cells 31:=by rw[<- Ah];exact Blk.new w _ _
 have s1:W1.heap.size=w.heap.size+1:=by rw[<- Ah];simp
 have Hj:=uK K x scs st root W1 (h.below b1 hK (Ab _)) hv hg (by omega)
 have Fh:∀ W2,Below W1.heap.size W1 W2->Calls Tryz.prog 39 #[x.agg,.func (.func 40) #[] #[]] W2 fun e w'=>F9 scs st root (fun l=>l.length != 1) W2.heap.size e w'/\Below W2.heap.size W2 w':=fun W2 hb =>
  qh1 K x scs st root 40 _ W2 (h.below (b1.trans (hb.mono (by omega))) hK (Ab _)) hv hg At (by have := hb.size;omega) zr3 zj1
 obtain⟨⟨sa,sn,sm⟩,⟨na,nn,nm⟩,⟨la,ln,lm⟩,rt⟩:=x;obtain⟨T,hT⟩:=Ae w.heap.size;dsimp only[Dv.agg,Dv.cells,Sl.val]at Hj Fh Ah q1 ⊢;rw[hT]at b1 q1 s1 ⊢;have HT:=Aa hT;have HW:=Aa Ah;have Bi:=Aa b1;have Bc:=Aa q1;have S1:=Aa s1;have Up:=Aa Hj;have F4:=Aa Fh;obtain⟨c0,c1,c2,c3⟩:=q1.four;clear h hv hg At Hj Fh hT Ah b1 q1 s1;go_enter Tryz.func15,Tryz.ntmps15
 go_upto_region 1 with fail
 simp only[HT.out];rw[HW.out];go_wp2_with fail
 refine Up.out.mono ?_;clear Up c0 c1 c2 c3;rintro en w2 ⟨rfl,Ai⟩;have hs:=F4.out w2 Ai;have HS:=Aa hs;have Dz:=Bc.out.below Ai (by rw[S1.out];omega);obtain⟨c0,c1,c2,c3⟩:=Dz.four;have K3:Below T w w2:=Bi.out.trans (Ai.mono (by rw[S1.out];omega));have Fd:=Aa K3
 have Az:T<=w2.heap.size:=by have := Ai.size;have := S1.out;omega
 clear hs Dz Ai K3;go_wp2_with fail
 refine HS.out.mono ?_;clear HS;rintro en w3 ⟨Qn,Ak⟩;have Do:=Aa (Fd.out.trans (Ak.mono Az))
 rcases Qn with⟨rfl,Eg⟩ | ⟨v,cs,l,rfl,ho,Ik,Kh,hw,_⟩
 ·have Lk:=Aa Eg
  clear Eg Ak;go_wp2_with fail
  go_ret
  exact⟨⟨true,rfl,by simpa using Lk.out⟩,Do.out⟩
 ·have j9:Tx st (fun l=>l.length != 1) root:=by
   obtain⟨n,hr,hl⟩:=Kh.reach;exact⟨n,l,hr,hl,hw⟩
  have P8:=Aa j9;clear ho Ik Kh hw j9 Ak;go_wp2_with fail
  go_ret
  exact⟨⟨false,rfl,⟨fun e=>(by cases e),fun e=>absurd P8.out e⟩⟩,Do.out⟩
end Go.Proofs.YtlldjmagbjjeoaaGreatDoor
