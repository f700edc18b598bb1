/- Contracts and plain laws, several texts in one (NW10, NW14, NW15). No conditions beyond those stated. -/
import Derived.Test.YtlldjmagbjjeoaaGreatDoorPk8
set_option maxRecDepth 100000
set_option maxHeartbeats 40000000
namespace Go.Proofs.YtlldjmagbjjeoaaGreatDoor
open Go.RowKit
set_option linter.unusedVariables false
theorem qlb.bn {B K:Nat} {w:World} {l:List Nat} {a:Option Addr} {c:Nat} (h:qlb B w l a c) (Aj:∀ d∈l,d<Ag) (ht:Hr l) (hK:w.heap.size<=K):Bn K w (.slice a l.length c) (bv Ag l):=by
 refine⟨l,?_,ht,rfl⟩
 by_cases h0:l=[]
 ·subst h0
  exact Ws.nil _ _ a c h.cap h.nil
 ·obtain⟨T,rfl,_,hr⟩:=h.row h0
  exact hr.ws (Nat.lt_of_lt_of_le hr.lt hK) h.len h.cap Aj
theorem zw8 (m n:Nat):decide (My m n<0)=decide (m<n):=by
 unfold My
 by_cases h:m<n
 ·rw[if_pos h];simp[h]
 ·rw[if_neg h]
  by_cases h2:n<m
  ·rw[if_pos h2];simp[h]
  ·rw[if_neg h2];simp[h]
theorem qjb (K:Nat) (u v:Value) (m n:Nat) (w:World) (hu:Bn K w u m) (hv:Bn K w v n) (hK:K<=w.heap.size) (vV:0<n) (Qd:m<Ag^268435456) :
  Calls Tryz.prog 143 #[u,v] w fun e w'=>∃ q r,e=.returned (.tuple #[q,r])/\Bn w'.heap.size w' q (m/n)/\Bn w'.heap.size w' r (m%n)/\Below w.heap.size w w'/\Bj w.heap.size q/\Bj w.heap.size r:=by
 have Kl:=uG K u v m n w hu hv;obtain⟨la,Bh,tla,Jw⟩:=hu;obtain⟨lb,Dh,tlb,Ms⟩:=hv;have En:=Yg tla (by rw[Jw];exact Qd);obtain⟨ua,uc,rfl,Ew,Ha⟩:=Bh.form;obtain⟨va,vc,rfl,Bu,Bs⟩:=Dh.form;unfold maxLen at Ha Bs;obtain⟨B,hB⟩:=Ae w.heap.size;rw[hB]at hK ⊢
 have zbh:∀ W,Below B w W->Ws K W (.slice ua la.length uc) la/\Ws K W (.slice va lb.length vc) lb:=fun W hb=>⟨Bh.below hb hK (Ab _),Dh.below hb hK (Ab _)⟩
 obtain⟨p,hp⟩:=Ae la.length;obtain⟨q,hq⟩:=Ae lb.length;rw[hp]at Ew En Kl ⊢;rw[hq]at Bu Kl ⊢
 have H8:0<q:=by
  rcases Nat.eq_zero_or_pos q with h | h
  ·have:lb=[]:=List.eq_nil_of_length_eq_zero (by omega)
   rw[this]at Ms;simp[bv]at Ms;omega
  ·exact h
 have Yi:=zw8 m n;obtain⟨cv,Ev⟩:∃ c,My m n=c:=⟨_,rfl⟩;rw[Ev]at Kl Yi;have HW:=Aa zbh;have HP:=Aa hp;have HQ:=Aa hq;have HB:=Aa hB;have Hy:=Aa Jw;have Mu:=Aa Ms;have zfq:=Aa tla;have qlq:=Aa tlb;have V9:=Aa Bh.lt;have Fd:=Aa Dh.lt;have cZ:=Aa Kl;clear Bh Dh Jw Ms tla tlb zbh hp hq hB Kl Ev Qd;go_enter Tryz.func143,Tryz.ntmps143
 go_wp2_with fail
 refine cZ.out.mono ?_;clear cZ;rintro e w2 ⟨rfl,k2,Jk⟩
 have Ai:Below B w w2:=by rw[Jk,<- HB.out];exact Gn (Below.refl _ _) k2
 have tS:w2.heap.size=B:=by rw[Jk];exact HB.out
 have Bz:=Aa Ai;have Si:=Aa tS;clear Jk Ai tS
 by_cases Ij:m<n
 ·have Jv:decide (cv<0)=true:=by rw[Yi];simp[Ij]
  have Ba:=qnz K _ la w2 (HW.out w2 Bz.out).1 (by rw[Si.out];exact hK) (by rw[HP.out];omega);rw[HP.out,Si.out]at Ba;have Hl:=Aa Ba;clear Ba Yi;go_wp2_with fail
  refine Hl.out.mono ?_;clear Hl;rintro e w3 ⟨a,c,rfl,Ak,hc⟩;have Fw:=hc.bn V9.out zfq.out (Ab w3.heap.size);have Qu:=hc.new;rw[HP.out,Hy.out]at Fw;rw[HP.out]at Qu;have Js:=Aa Fw;have zdb:=Aa Qu;have Do:=Aa Ak;clear hc Fw Qu Ak;go_wp2_with fail
  go_ret2
  exact⟨_,_,rfl,⟨[],Ws.nil _ _ none 0 (by simp[maxLen]) (fun _=>rfl),Hr.nil,by rw[Nat.div_eq_of_lt Ij];rfl⟩,by rw[Nat.mod_eq_of_lt Ij];exact Js.out,Bz.out.trans Do.out,Bj.nil _ _ _,zdb.out⟩
 ·have Jv:decide (cv<0)=false:=by rw[Yi];simp[Ij]
  clear Yi
  by_cases Lv:q=1
  ·subst Lv
   obtain⟨d,hd⟩:∃ d,lb=[d]:=by
    have := HQ.out
    match lb,this with
    | [d],_=>exact⟨d,rfl⟩
   have D0:d=n:=by have := Mu.out;rw[hd]at this;simpa [bv] using this
   subst D0;have M2:=Fd.out d (by rw[hd];exact List.mem_singleton.2 rfl);obtain⟨vb,vo,cap,he,_,_,eK,Rz⟩:=(HW.out w2 Bz.out).2.at (by rw[HQ.out];omega);rw[HQ.out]at he;simp only[Value.slice.injEq,true_and]at he;obtain⟨rfl,rfl⟩:=he;have e0:=Rz 0 d (by rw[hd];rfl);rw[Nat.add_zero]at e0;have qiy:=zvg K _ la d w2 (HW.out w2 Bz.out).1 (by rw[Si.out];exact hK) (by rw[HP.out];omega) vV M2;rw[HP.out,Si.out,Hy.out]at qiy;have iW:=Aa qiy;obtain⟨r,hr⟩:=Ae (m%d);rw[hr]at iW;have Ml:=Aa hr
   have yX:r<Ag:=by rw[<- hr];exact Nat.lt_trans (Nat.mod_lt _ vV) M2
   clear qiy Rz hd hr;go_wp2_with fail
   refine iW.out.mono ?_;clear iW;rintro e w3 ⟨qv,rfl,Hq,Ak,pQ⟩;obtain⟨T3,E0⟩:∃ T,w3.heap.size=T:=⟨_,rfl⟩;obtain⟨W4,Fc⟩:∃ W,w3.alloc (.cells #[.int .u32 (r:Int)] 172)=W:=⟨_,rfl⟩
   have b4:Below T3 w3 W4:=by rw[<- Fc,<- E0];exact Af _ _
   have q4:Ed W4 T3 [r]:=by
    have:Blk W4 T3 (Fa [r]) 172:=by rw[<- Fc,<- E0];exact Blk.new w3 _ _
    exact mF this
   have Ki:=q4.ws (K:=W4.heap.size) (c:=1) q4.lt (by simp) (by simp[maxLen]) (fun d hd=>by rw[List.mem_singleton.1 hd];exact yX);have ht:=Yr W4.heap.size _ [r] W4 Ki;rw[show bv Ag [r]=r by simp[bv]]at ht;have HT:=Aa ht;have qg5:=Ak.size;rw[E0,Si.out]at qg5;rw[E0]at Hq;have D9:=Aa (Hq.below b4 (Ab _) (Ab _));have zsc:=Aa pQ;have qJ:=Aa E0;have lH:=Aa Fc;have Ei:Hid (Below B w W4):=Aa (Bz.out.trans (Ak.trans (b4.mono qg5)));have Fi:T3<=W4.heap.size:=Nat.le_of_lt q4.lt
   obtain⟨qa,qn,qc,rfl⟩:∃ a n c,qv=.slice a n c:=by
    obtain⟨l,hl,_⟩:=Hq;obtain⟨a,c,h,_⟩:=hl.form;exact⟨a,_,c,h⟩
   clear E0 Fc b4 q4 Ki ht Hq pQ Ak e0
   go_upto_region 5 with fail
   go_wp2_with fail
   try simp only[qJ.out]
   try rw[lH.out]
   refine HT.out.mono ?_;clear HT;rintro e w9 ⟨a9,n9,c9,k9,he,rfl,Fw,rfl⟩;simp only[Value.slice.injEq]at he;obtain⟨rfl,rfl,rfl⟩:=he;have Js:=Aa Fw;clear Fw;go_wp2_with fail
   go_ret2
   exact⟨_,_,rfl,D9.out.below (Below.refl W4.heap.size W4) Fi Fi,by rw[Ml.out];exact Js.out,Ei.out,zsc.out,Bj.at qg5⟩
  ·have Dz:2<=q:=by omega
   have jbx:((q:Int)==1)=false:=by simp;omega
   have wM:q<=p:=by
    have := qdu (l:=la) (r:=lb) V9.out qlq.out (by rw[Hy.out,Mu.out];omega);rw[HP.out,HQ.out]at this;exact this
   obtain⟨kq,jT⟩:∃ k,q=k+1:=⟨q-1,by omega⟩;obtain⟨t,ht⟩:∃ t,lb[kq]?=some t:=⟨_,Ac (by rw[HQ.out];omega)⟩;have N5:=Fd.out t (List.mem_of_getElem? ht)
   have Nv:t≠0:=by
    rcases qlq.out with h | h
    ·rw[h]at ht;cases ht
    ·rw[List.getLast?_eq_getElem?,HQ.out,jT,Nat.add_sub_cancel,ht,Option.getD_some]at h
     exact h
   obtain⟨vb,vo,cap,he,_,_,eK,Rz⟩:=(HW.out w2 Bz.out).2.at (by rw[HQ.out];omega);rw[HQ.out]at he;simp only[Value.slice.injEq,true_and]at he;obtain⟨rfl,rfl⟩:=he;have e0:=Rz kq t ht;obtain⟨s,Sz,Cp,Az,eY⟩:=qxn t N5 Nv w2
   have zxt:(q:Int)-1=(kq:Int):=by omega
   have zyp:kq<q:=by omega
   have zy4:IntKind.i64.wrap (kq:Int)=kq:=Su (by omega) (by omega);have Hw:=qve K _ lb s w2 (HW.out w2 Bz.out).2 (by rw[Si.out];exact hK) (by rw[HQ.out];omega) Sz;rw[HQ.out,Si.out,Mu.out]at Hw;have qyi:=Aa Hw;have qcx:=Aa eY;have HT:=Aa ht;have kL:=Aa jT;have Oq:=Aa Cp;have zc9:=Aa Az;clear Hw eY ht jT Rz Nv N5 Cp Az;go_wp2_with fail
   refine qcx.out.mono ?_;clear qcx;rintro e w3 ⟨rfl,rfl⟩;clear e0;go_wp2_with fail
   refine qyi.out.mono ?_;clear qyi;rintro e w4 ⟨X1,rfl,Jd,qno,qgv,za7,Al,Fi⟩;obtain⟨hV,qkz⟩:=zt4 (lb:=lb) (X:=X1) (k:=kq) (t:=t) (s:=s) (by rw[HQ.out];exact kL.out) Fd.out HT.out Sz Oq.out zc9.out (by have := kL.out;omega) qgv (by rw[Mu.out];exact za7);rw[<- kL.out]at hV qkz;rw[Mu.out]at hV;have qjj:Below B w w4:=Bz.out.trans Al;have X0:=qve K _ la s w4 (HW.out w4 qjj).1 (by omega) (by rw[HP.out];omega) Sz;rw[HP.out,Fi,Hy.out]at X0;have qmv:=Aa X0;have Nz:=Aa Jd;have zik:=Aa qno;have zkp:=Aa qgv;have HV:=Aa hV;have zn2:=Aa qkz;have qcb:=Aa qjj;clear X0 Jd qno qgv za7 Al qjj hV qkz;go_wp2_with fail
   refine qmv.out.mono ?_;clear qmv;rintro e w5 ⟨X2,rfl,Dw,qsl,qny,j6,Aq,Kg⟩;have Sd:0<2^s:=Nat.pow_pos (by omega);obtain⟨P,hP⟩:=Ae (2^s);rw[hP]at j6 Sd;have Yb:Hid (bv Ag (X1.take q)=n*P):=Aa (by rw[<- hP];exact HV.out);obtain⟨D,hD⟩:=Ae (n*P);rw[hD]at Yb
   have cF:(X1.take q).length=q:=by rw[List.length_take,zik.out];omega
   have qcz:∀ d∈X1.take q,d<Ag:=fun d hd=>zkp.out d (List.mem_of_mem_take hd)
   have kN:D<Ag^q:=by
    have := Nd (X1.take q) qcz;rw[cF,Yb.out]at this;exact this
   have Nm:0<D:=by rw[<- hD];exact Nat.mul_pos vV Sd
   obtain⟨c,hc⟩:=Ae (p-q+1)
   have Mx:(p:Int)-(q:Int)+1=(c:Int):=by omega
   obtain⟨pq,ziw⟩:∃ x,p-q=x:=⟨_,rfl⟩
   have zzs:(p:Int)-(q:Int)=(pq:Int):=by omega
   have jb1:(pq:Int)+1=(c:Int):=by omega
   have Fs:=fC c (by omega) w5;rw[Kg]at Fs;obtain⟨W6,Fk⟩:∃ W,w5.alloc (.cells (Fa (List.replicate c 0)) 172)=W:=⟨_,rfl⟩
   have b6:Below (B+2) w5 W6:=by rw[<- Fk];exact(Below.refl _ _).alloc (by omega) _
   have q6:Ed W6 (B+2) (List.replicate c 0):=by
    have:Blk W6 (B+2) (Fa (List.replicate c 0)) 172:=by rw[<- Fk,<- Kg];exact Blk.new w5 _ _
    exact mF this
   have s6:W6.heap.size=B+3:=by rw[<- Fk,World.size_alloc,Kg]
   have zag:Ed W6 B X1:=(Nz.out.below Aq (by omega)).below b6 (by omega);have qna:Ed W6 (B+1) X2:=Dw.below b6 (by omega);have qtx:Below B w W6:=qcb.out.trans ((Aq.mono (by omega)).trans (b6.mono (by omega)))
   have N2:Dvn X2 X2 (List.replicate c 0) D q c:=by
    have zG:c+q=p+1:=by omega
    have hz:bv Ag ((List.replicate c 0:List Nat).drop c)=0:=by rw[List.drop_of_length_le (by simp)];rfl
    have qq1:=qjs (b:=Ag) X2 c (by omega)
    have qmn:sg X2 c q=X2.drop c:=by unfold sg;rw[List.take_of_length_le (by rw[List.length_drop];omega)]
    refine⟨by rw[hz,Nat.zero_mul,Nat.mul_zero,Nat.zero_add,qmn];exact qq1,?_,by rw[List.getElem?_eq_none (by omega)];rfl⟩;rw[qmn]
    have h1:Ag^c*bv Ag (X2.drop c)<=m*P:=by rw[<- j6,qq1];omega
    have h2:m<Ag^p:=by
     have := Nd la V9.out;rw[HP.out,Hy.out]at this;exact this
    have h3:m*P<Ag^p*P:=Nat.mul_lt_mul_of_pos_right h2 Sd
    have h4:Ag^p=Ag^c*Ag^kq:=by rw[<- Nat.pow_add];congr 1;have := kL.out;omega
    have h5:Ag^kq<=n:=by
     have := kF (b:=Ag) qlq.out (by intro e;have := HQ.out;rw[e]at this;simp at this;omega);rw[HQ.out,Mu.out,kL.out,Nat.add_sub_cancel]at this;exact this
    have h6:Ag^kq*P<=D:=by rw[<- hD];exact Nat.mul_le_mul_right _ h5
    have h7:Ag^c*(Ag^kq*P)<=Ag^c*D:=Nat.mul_le_mul_left _ h6;rw[h4,Nat.mul_assoc]at h3
    have h8:Ag^c*bv Ag (X2.drop c)<Ag^c*D:=by omega
    exact Nat.lt_of_mul_lt_mul_left h8
   have zpb:=Aa N2;have Th:=Aa cF;have wX:=Aa qcz;have zuy:=Aa qsl;have zxl:=Aa j6;have zks:=Aa qny;have Ko:=Aa hP;have kD:=Aa hD;have Uq:=Aa kN;have HC:=Aa hc;have aF:=Aa Fk;have aY:=Aa q6;have sN:=Aa zag;have zgw:=Aa qna;have pC:=Aa qtx;have qit:=Aa s6
   have Fx:c<=2^30:=by omega
   have jam:=Aa Kg;clear qsl j6 qny hP hD hc Fk q6 zag qna qtx N2 Aq Dw b6 Nz qcb ziw s6;clear cF qcz kN Kg Fi
   go_upto_region 11 with fail
   try simp only[Nat.add_assoc,Nat.reduceAdd]
   rw[aF.out];go_wp2_with fail
   go_loopw [13] (fun iv wr=>∃ (i:Nat) (X Q:List Nat),i<=c/\iv=.int .i64 ((i:Int)-1)/\Hid (X.length=p+1)/\Hid (∀ d∈X,d<Ag)/\Hid (Q.length=c)/\Hid (∀ d∈Q,d<Ag)/\Hid (Dvn X2 X Q D q i)/\Hid (Ed wr B X1)/\Hid (Ed wr (B+1) X)/\Hid (Ed wr (B+2) Q)/\Hid (Below B w wr)) (fun iv _=>(intOf iv+1).toNat)
   case atStart=>exact⟨c,X2,List.replicate c 0,Ab _,rfl,zuy,zks,Aa (by simp),Aa (fun d hd=>by rw[List.eq_of_mem_replicate hd];decide),zpb,sN,zgw,aY,pC⟩
   case round =>
    obtain⟨i,X,Q,hi,rfl,Co,Ia,Lg,Xy,Ig,aH,sY,qs1,Ej⟩:=hrel;obtain⟨wo,rfl⟩:∃ wo:World,wo=wr:=⟨_,rfl⟩
    cases i with
    | succ j =>
     have dH:(((j+1:Nat):Int)-1)=(j:Int):=by omega
     rw[dH];obtain⟨jq,qr9⟩:∃ x,j+q=x:=⟨_,rfl⟩
     have jbl:(j:Int)+(q:Int)=(jq:Int):=by omega
     have qbu:jq+1<=p+1:=by have := HC.out;omega
     have jbv:IntKind.i64.wrap (jq:Int)=jq:=Su (by omega) (by omega)
     have jbb:(jq+1-j:Nat)=q+1:=by omega
     obtain⟨x,hx⟩:∃ x,X[j]?=some x:=⟨_,Ac (by rw[Co.out];omega)⟩
     have I4:bv Ag (sg X j (q+1))<bv Ag (X1.take q)*Ag:=by
      rw[Yb.out,zb8 hx];have h1:=Ig.out.low;have h2:=Ia.out x (List.mem_of_getElem? hx);have h3:Ag*(bv Ag (sg X (j+1) q)+1)<=Ag*D:=Nat.mul_le_mul_left _ h1;rw[Nat.mul_add,Nat.mul_comm Ag D]at h3;omega
     have J3:=zup (B+1) j q B 0 (q+1) (p+1-j) X (X1.take q) wo sY.out Ia.out Dz (by rw[Co.out];omega) Th.out wX.out (fun i d hd=>by
       have hi:=(List.getElem?_eq_some_iff.1 hd).1;rw[Th.out]at hi;rw[List.getElem?_take_of_lt hi]at hd
       rw[Nat.zero_add];exact aH.out.at hd) (by omega) aH.out.lt (by omega) (by omega) (fun y hy=>zn2.out y (by rw[show kq=q-1 by have := kL.out;omega];exact hy)) I4
     rw[Yb.out]at J3;obtain⟨dg,Fo⟩:∃ g,bv Ag (sg X j (q+1))/D=g:=⟨_,rfl⟩;rw[Fo]at J3
     have zen:dg<Ag:=by
      rw[<- Fo];refine Nat.div_lt_of_lt_mul ?_;rw[Yb.out]at I4;exact I4
     have qri:j<c:=by omega
     obtain⟨old,ho⟩:∃ o,Q[j]?=some o:=⟨_,Ac (by rw[Lg.out];exact qri)⟩;have dB:=Aa J3;have I0:=Aa Fo;have HO:=Aa ho;clear J3 Fo ho hx I4 dH
     have zz7:¬ (p+1=j):=by omega
     have qkd:j<=jq+1:=by omega
     go_wp2_with fail
     refine dB.out.mono ?_;clear dB;rintro e w7 ⟨X',rfl,qwy,Pq,qic,iG,qy2,hg⟩
     have qbh:Ed w7 (B+2) Q:=by
      obtain⟨cs,h1,h2,h3⟩:=qs1.out;exact⟨cs,(hg.block (B+2) h1.lt (by simp)).trans h1,h2,h3⟩
     have Qm:Ed w7 B X1:=by
      obtain⟨cs,h1,h2,h3⟩:=aH.out;exact⟨cs,(hg.block B h1.lt (by simp)).trans h1,h2,h3⟩
     have Ct:Below B w w7:=Ej.out.trans ((Sq hg (fun r e=>by cases e;exact Ab _) (Nat.le_of_lt sY.out.lt)).mono (by omega));have e1:w7.cell? ⟨B+2,j,none⟩=some (.int .u32 (old:Int)):=qbh.at HO.out;have f1:w7.frozen? ⟨B+2,j,none⟩=false:=qbh.free j;have Ls:=Ig.out.step (X':=X') (q:=dg) (by rw[Co.out];omega) Ia.out qic Pq Uq.out Nm (by rw[Lg.out];exact qri) I0.out.symm iG qy2;have dB:=Aa Ls;have sI:=Aa (qbh.set j dg);have qk4:=Fm w7 (B+2) j (.int .u32 (dg:Int))
     have zta:Hid (Ed (w7.setCell ⟨B+2,j,none⟩ (.int .u32 (dg:Int))) B X1):=Aa (by
      obtain⟨cs,h1,h2,h3⟩:=Qm
      exact⟨cs,(qk4.block B h1.lt (by simp)).trans h1,h2,h3⟩)
     have zlj:Hid (Ed (w7.setCell ⟨B+2,j,none⟩ (.int .u32 (dg:Int))) (B+1) X'):=Aa (by
      obtain⟨cs,h1,h2,h3⟩:=qwy
      exact⟨cs,(qk4.block (B+1) h1.lt (by simp)).trans h1,h2,h3⟩)
     have E7:=Aa (Ct.setCell (p:=⟨B+2,j,none⟩) (by show B<=B+2;omega) (.int .u32 (dg:Int)));have zt5:=Aa qic;have zdy:Hid (X'.length=p+1):=Aa (by rw[Pq];exact Co.out);have zii:Hid ((Q.set j dg).length=c):=Aa (by rw[List.length_set];exact Lg.out);have zqb:Hid (∀ d∈Q.set j dg,d<Ag):=Aa (Un Xy.out zen);clear qwy Pq qic iG qy2 hg qbh Qm Ct Ls qk4;go_wp2_with fail
     exact⟨⟨j,X',Q.set j dg,by omega,rfl,zdy,zt5,zii,zqb,dB,zta,zlj,sI,E7⟩,by simp[intOf]⟩
    | zero =>
     have K2:=Ig.out.val;have Hv:=Ig.out.low;have Cz:=Ig.out.zero;rw[Nat.pow_zero,Nat.one_mul,List.drop_zero,List.take_zero,bv,Nat.zero_add,Nat.one_mul,zxl.out]at K2;rw[Nat.zero_add]at Cz
     have qw3:sg X 0 q=X.take q:=by unfold sg;rw[List.drop_zero]
     rw[qw3]at K2 Hv;have A9:m*P/D=bv Ag Q/\m*P%D=bv Ag (X.take q):=(Nat.div_mod_unique Nm).2 ⟨by rw[K2,Nat.mul_comm D];omega,Hv⟩
     have qq2:bv Ag Q=m/n:=by rw[<- A9.1,<- kD.out,Nat.mul_div_mul_right _ _ Sd]
     have qyb:bv Ag (X.take q)=m%n*P:=by rw[<- A9.2,<- kD.out,Nat.mul_mod_mul_right]
     have D9:=Aa qq2;have zxe:=Aa qyb;have qaj:=Aa Cz;clear K2 Hv Cz qw3 A9 qq2 qyb;go_wp2_with fail
     go_loopw [78] (fun iv wr=>∃ (i:Nat) (Y:List Nat),i<=q/\iv=.int .i64 i/\Hid (Y.length=X.length)/\Hid (∀ d∈Y,d<Ag)/\Hid (aC X Y P q i)/\Hid (Ed wr (B+1) Y)/\Hid (Ed wr (B+2) Q)/\Hid (Below B w wr)) (fun iv _=>q-(intOf iv).toNat)
     case atStart=>exact⟨0,X,Nat.zero_le _,rfl,Aa rfl,Ia,Aa aC.start,sY,qs1,Ej⟩
     case round =>
      obtain⟨i,Y,hi,rfl,Mt,F7,jB,mY,sI,wP⟩:=hrel;obtain⟨wq,rfl⟩:∃ wq:World,wq=wr:=⟨_,rfl⟩
      by_cases Aj:i<q
      ·obtain⟨x,hx⟩:∃ x,X[i]?=some x:=⟨_,Ac (by rw[Co.out];omega)⟩
       obtain⟨y,hy⟩:∃ y,X[i+1]?=some y:=⟨_,Ac (by rw[Co.out];omega)⟩;have Ib:=Ia.out x (List.mem_of_getElem? hx);have Ps:=Ia.out y (List.mem_of_getElem? hy)
       have sH:Y[i]?=some x:=by rw[jB.out.keep i (Ab _)];exact hx
       have quh:Y[i+1]?=some y:=by rw[jB.out.keep (i+1) (by omega)];exact hy
       obtain⟨ys,Xz⟩:∃ z,y*Ag=z:=⟨_,rfl⟩
       have zyh:(y:Int)*4294967296=(ys:Int):=by unfold Ag at Xz;omega
       obtain⟨S,hS⟩:=Ae (y*Ag+x)
       have qfp:S<18446744073709551616:=by unfold Ag at *;omega
       have lN:bits BinOp.or IntKind.u64 (ys:Int) (x:Int)=(S:Int):=by
        rw[u64_or_nat ys x (by unfold Ag at *;omega) (by unfold Ag at *;omega)];have := Nat.two_pow_add_eq_or_of_lt (i:=32) (show x<2^32 from Ib) y
        have e:ys=2^32*y:=by unfold Ag at Xz;omega
        rw[e,<- this];unfold Ag at *;omega
       obtain⟨E,hE⟩:=Ae (S/P);obtain⟨z,hz⟩:=Ae (E%Ag)
       have zzp:(S:Int)/(P:Int)=(E:Int):=by rw[<- hE];simp
       have zyd:(2:Int)^s=(P:Int):=by rw[<- Ko.out];simp
       have zx0:IntKind.u32.wrap (E:Int)=(z:Int):=by unfold Ag at hz;simp[IntKind.wrap,IntKind.bits,IntKind.signed];omega
       have Kw:IntKind.u64.wrap (y:Int)=y:=Cg (by unfold Ag at *;omega);have Gs:IntKind.u64.wrap (x:Int)=x:=Cg (by unfold Ag at *;omega);have gV:IntKind.u64.wrap (ys:Int)=ys:=Cg (by unfold Ag at *;omega);have xZ:IntKind.i64.wrap ((i:Int)+1)=(i:Int)+1:=Su (by omega) (by omega);have e1:wq.cell? ⟨B+1,i,none⟩=some (.int .u32 (x:Int)):=mY.out.at sH;have e2:wq.cell? ⟨B+1,i+1,none⟩=some (.int .u32 (y:Int)):=mY.out.at quh;have f1:wq.frozen? ⟨B+1,i,none⟩=false:=mY.out.free i;have e1':wq.drew.cell? ⟨B+1,i,none⟩=some (.int .u32 (x:Int)):=e1;have e2':wq.drew.cell? ⟨B+1,i+1,none⟩=some (.int .u32 (y:Int)):=e2;have f1':wq.drew.frozen? ⟨B+1,i,none⟩=false:=f1;have Sy:=jB.out.step (z:=z) Ko.out Sz hx Ib hy (by rw[hS,hE,hz]) Mt.out;have zhs:=Aa Sy
       have jbi:i<p+1:=by omega
       have jb8:i+1<p+1:=by omega
       have zdk:=Aa ((show Ed wq.drew (B+1) Y from mY.out).set i z);have znu:=Aa ((Er wP.out).setCell (p:=⟨B+1,i,none⟩) (by show B<=B+1;omega) (.int .u32 (z:Int)))
       have zte:Hid (Ed (wq.drew.setCell ⟨B+1,i,none⟩ (.int .u32 (z:Int))) (B+2) Q):=Aa (by
        obtain⟨cs,h1,h2,h3⟩:=sI.out
        exact⟨cs,((Fm wq.drew (B+1) i _).block (B+2) h1.lt (by simp)).trans h1,h2,h3⟩)
       have zq9:Hid ((Y.set i z).length=X.length):=Aa (by rw[List.length_set];exact Mt.out);have zek:Hid (∀ d∈Y.set i z,d<Ag):=Aa (Un F7.out (by rw[<- hz];exact Nat.mod_lt _ (by decide)));clear hx hy sH quh Xz hS hE hz Sy
       go_upto_region 18 with fail
       go_region
       go_wp2_with fail
       exact⟨⟨i+1,Y.set i z,by omega,by go_num,zq9,zek,zhs,zdk,zte,znu⟩,by simp[intOf];omega⟩
      ·obtain rfl:q=i:=by omega
       have qs3:=jB.out.done Sd qaj.out zxe.out
       have zwq:(Y.take q).length=q:=by rw[List.length_take,Mt.out,Co.out];omega
       have qdq:=(show Ed wq.drew (B+2) Q from sI.out).ws (K:=wq.drew.heap.size) (c:=c) sI.out.lt (by rw[Lg.out];exact Ab _) (by unfold maxLen;omega) Xy.out;rw[Lg.out]at qdq;have Nf:=Yr wq.drew.heap.size _ Q wq.drew qdq;rw[D9.out]at Nf;have jK:=(show Ed wq.drew (B+1) Y from mY.out).ws (K:=wq.drew.heap.size) (c:=p+1) mY.out.lt (by rw[Mt.out,Co.out];exact Ab _) (by unfold maxLen;omega) F7.out;have qxw:=jK.take (k:=q) (by rw[Mt.out,Co.out];omega);have O4:=Yr wq.drew.heap.size _ (Y.take q) wq.drew qxw;rw[qs3]at O4;have Vi:=Aa Nf;have Rb:=Aa O4
       have X4:¬ (p+1=0):=by omega
       have jbk:¬ ((p:Int)+1<(q:Int)):=by omega
       clear qs3 zwq qdq Nf jK qxw O4
       go_upto_region 20 with fail
       have qS:(fun W'=>W'=wq.drew) wq.drew:=rfl;refine Fz (fun W'=>W'=wq.drew) [] (by kernel_rfl) ?_;refine Aw (i:=0) (v:=.slice (some ⟨B+2,0,none⟩) c c) (some 101) rfl rfl qS ?_;refine Aw (i:=2) (v:=.slice (some ⟨B+1,0,none⟩) (p+1) (p+1)) (some 103) rfl rfl qS ?_;refine Aw (i:=3) (v:=.int .i64 q) (some 104) rfl rfl qS ?_;refine Aw (i:=4) (v:=.slice (some ⟨B+1,0,none⟩) q (p+1)) (some 105) rfl rfl qS ?_;refine Ap (i:=1) rfl ?_;go_simp
       refine Vi.out.mono ?_;clear Vi;rintro e w9 ⟨a9,n9,c9,k9,he,rfl,Fw,rfl⟩;simp only[Value.slice.injEq]at he;obtain⟨rfl,rfl,rfl⟩:=he;have zko:=Aa Fw;clear Fw;refine⟨qS,?_⟩;refine Ap (i:=5) rfl ?_;go_simp
       refine Rb.out.mono ?_;clear Rb;rintro e w9 ⟨a8,n8,c8,k8,he,rfl,Fw,rfl⟩;simp only[Value.slice.injEq]at he;obtain⟨rfl,rfl,rfl⟩:=he;have ztb:=Aa Fw;clear Fw;refine⟨qS,?_⟩;refine Aw (i:=6) (v:=.slice (some ⟨B+2,0,none⟩) k9 c) (some 4) rfl rfl qS ?_;refine Aw (i:=7) (v:=.slice (some ⟨B+1,0,none⟩) k8 (p+1)) (some 5) rfl rfl qS ?_;refine Eo (by kernel_rfl) ?_ _;go_simp
       go_wp2_with fail
       go_ret2
       exact⟨_,_,rfl,zko.out,ztb.out,Er wP.out,Bj.at (by omega),Bj.at (by omega)⟩
theorem zvi {la lb:List Nat} {p t s:Nat} (Bh:∀ d∈la,d<Ag) (Dh:∀ d∈lb,d<Ag) (hp:la.length=p+1) (hq:lb.length<=p+1) (Bt:bv Ag lb<=bv Ag la) (ht:la[p]?.getD 0=t):lb[p]?.getD 0<=t:=by
 have h1:bv Ag la=bv Ag (la.take p)+Ag^p*t:=by rw[<- ht,<- Wk,List.take_of_length_le (by omega)]
 have h2:bv Ag lb=bv Ag (lb.take p)+Ag^p*(lb[p]?.getD 0):=by rw[<- Wk,List.take_of_length_le hq]
 have h3:=Nd (la.take p) (fun d hd=>Bh d (List.mem_of_mem_take hd));rw[List.length_take,hp,show min p (p+1)=p by omega]at h3
 rcases Nat.lt_or_ge t (lb[p]?.getD 0)with h | h
 ·have h4:Ag^p*(t+1)<=Ag^p*(lb[p]?.getD 0):=Nat.mul_le_mul_left _ h
  rw[Nat.mul_add,Nat.mul_one]at h4;omega
 ·exact h
theorem qrd {la:List Nat} {n s:Nat} (Aj:∀ d∈la,d<Ag) (hs:s<32) (hh:la[n-1]?.getD 0*2^s<Ag):Sr la n s<18446744073709551616:=by
 have iF:∀ i:Nat,la[i]?.getD 0<Ag:=fun i=>by
  cases h:la[i]? with
  | none=>decide
  | some d=>exact Aj d (List.mem_of_getElem? h)
 unfold Sr;have h2:=iF (n-2);have h3:=iF (n-3);obtain⟨h,U7⟩:∃ z,la[n-1]?.getD 0=z:=⟨_,rfl⟩;obtain⟨m,Wo⟩:∃ z,la[n-2]?.getD 0=z:=⟨_,rfl⟩;obtain⟨t,Yj⟩:∃ z,la[n-3]?.getD 0=z:=⟨_,rfl⟩;rw[U7]at hh;rw[Wo]at h2;rw[Yj]at h3;rw[U7,Wo,Yj]
 have Xu:2^s*2^(32-s)=Ag:=by rw[<- Nat.pow_add,show s+(32-s)=32 by omega]
 obtain⟨P,hP⟩:=Ae (2^s);obtain⟨Q,hQ⟩:=Ae (2^(32-s));rw[hP]at hh;rw[hP,hQ]at Xu;rw[hP,hQ];have h5:h<Q:=Nat.lt_of_mul_lt_mul_left (a:=P) (by rw[Nat.mul_comm,Xu];exact hh)
 have h4:(h+1)*P<=Ag:=by rw[<- Xu,Nat.mul_comm];exact Nat.mul_le_mul_left _ h5
 have h6:(h*Ag+m+1)*P<=(h+1)*Ag*P:=Nat.mul_le_mul_right _ (by rw[Nat.add_mul];omega)
 have h7:(h+1)*Ag*P=(h+1)*P*Ag:=by rw[Nat.mul_assoc,Nat.mul_comm Ag P,<- Nat.mul_assoc]
 have h8:(h+1)*P*Ag<=Ag*Ag:=Nat.mul_le_mul_right _ h4
 have h9:Ag*Ag=18446744073709551616:=by decide
 rw[Nat.add_mul,Nat.one_mul]at h6;have sJ:t/Q<P:=Nat.div_lt_of_lt_mul (by rw[Nat.mul_comm,Xu];exact h3);omega
theorem zmi {la lb:List Nat} {n s:Nat} (Bh:∀ d∈la,d<Ag) (Dh:∀ d∈lb,d<Ag) (hp:la.length<=n) (hq:lb.length<=n) (hn:3<=n) (hs:s<32) (Bt:bv Ag lb<=bv Ag la):Sr lb n s<=Sr la n s:=by
 rw[wA Bh hp hn hs,wA Dh hq hn hs];exact Nat.div_le_div_right (Nat.mul_le_mul_right _ Bt)
def Lh.val (c:Lh):Array Value:=#[.int .u64 c.u0,.int .u64 c.u1,.int .u64 c.v0,.int .u64 c.v1,.bool c.ev]
theorem zj2 (K:Nat) (a b:Value) (la lb:List Nat) (w:World) (Bh:Ws K w a la) (Dh:Ws K w b lb) (tla:Hr la) (hK:K<=w.heap.size) (h3:3<=la.length) (zvu:la.length<=2^30) (Mx:lb.length<=la.length) (Bt:bv Ag lb<=bv Ag la) :
  Calls Tryz.prog 146 #[a,b] w fun e w'=>∃ (s:Nat) (c:Lh),s<32/\Sr la la.length s<18446744073709551616/\LhI (Sr la la.length s) (Sr lb la.length s) c/\e=.returned (.agg c.val)/\Below w.heap.size w w':=by
 obtain⟨T,hT⟩:=Ae w.heap.size;rw[hT]at hK ⊢;obtain⟨n,hn⟩:=Ae la.length;rw[hn]at h3 zvu Mx ⊢;obtain⟨p,hp⟩:∃ p,n=p+1:=⟨n-1,by omega⟩
 have J7:n-1=p:=by omega
 obtain⟨t,ht⟩:∃ t,la[p]?=some t:=⟨_,Ac (by omega)⟩
 have Nv:t≠0:=by
  rcases tla with h | h
  ·rw[h]at hn;simp at hn;omega
  ·rw[List.getLast?_eq_getElem?,hn,J7,ht]at h
   exact h
 have N5:t<Ag:=Bh.lt t (List.mem_of_getElem? ht);obtain⟨W1,Ah⟩:∃ W,w.alloc (.cells #[.int .u64 0,.int .u64 0,.int .u64 0,.int .u64 0,.bool false] 189)=W:=⟨_,rfl⟩
 have b1:Below T w W1:=by rw[<- Ah,<- hT];exact Af _ _
 have s1:W1.heap.size=T+1:=by rw[<- Ah,<- hT];simp
 obtain⟨s,Sz,Cp,Az,eY⟩:=qxn t N5 Nv W1
 have qg8:la[p]?.getD 0=t:=by rw[ht];rfl
 have Y6:=zvi (s:=s) Bh.lt Dh.lt (show la.length=p+1 by omega) (by omega) Bt qg8
 have nK:la[n-1]?.getD 0*2^s<Ag:=by rw[J7,qg8];exact Cp
 have qec:lb[n-1]?.getD 0*2^s<Ag:=by rw[J7];exact Nat.lt_of_le_of_lt (Nat.mul_le_mul_right _ Y6) Cp
 have hX:=qrd Bh.lt Sz nK;have hY:=qrd Dh.lt Sz qec;have qi4:=zmi (n:=n) Bh.lt Dh.lt (by omega) (by omega) (by omega) Sz Bt;have nA:Ws K W1 a la:=Bh.below b1 hK (Ab _);have qcs:=qm6 K a la n s W1 nA (by omega) (by omega) (by omega) Sz nK
 have qfq:∀ w2,Below (T+1) W1 w2->Calls Tryz.prog 162 #[b,.int .i64 n,.int .i64 s] w2 fun e w'=>e=.returned (.int .u64 (Sr lb n s:Nat))/\Below w2.heap.size w2 w':=fun w2 h2 =>
  qm6 K b lb n s w2 ((Dh.below b1 hK (Ab _)).below h2 (by omega) (Ab _)) (by have := h2.size;omega) (by omega) (by omega) Sz qec
 obtain⟨va,vc,rfl,Bu,Bs⟩:=Dh.form
 obtain⟨ta,tof,tc,rfl,qbo,Gw,zv9,zjr⟩:∃ ta tof tc,a=.slice (some ⟨ta,tof,none⟩) la.length tc/\ta<K/\w.cell? ⟨ta,tof+p,none⟩=some (.int .u32 (t:Int))/\la.length<=tc/\tc<=maxLen:=by
  obtain⟨ua,uc,rfl,Ew,Ha⟩:=Bh.form;obtain⟨ub,uo,rfl,tF,G9,_⟩:=Bh.cells p t ht;exact⟨ub,uo,uc,rfl,tF,G9,Ew,Ha⟩
 rw[hn]at zv9 nA qcs
 have zrr:(n:Int)-1=(p:Int):=by omega
 have Pp:p<n:=by omega
 obtain⟨X,qld⟩:=Ae (Sr la n s);obtain⟨Y,qj9⟩:=Ae (Sr lb n s);rw[qld]at hX qi4 qcs;rw[qj9]at hY qi4 qfq;have e0:W1.cell? ⟨ta,tof+p,none⟩=some (.int .u32 (t:Int)):=(b1.cell (p:=⟨ta,tof+p,none⟩) (show ta<T by omega)).trans Gw;unfold maxLen at Bs zjr;rw[hn];have qso:=Aa hX;have zV:=Aa qld;have qui:=Aa qj9;have qcx:=Aa eY;have zuv:=Aa qcs;have ztq:=Aa qfq;have Bi:=Aa b1;have Oq:=Aa s1;have Dk:=Aa Ah;have HT:=Aa hT;clear qld qj9 eY qcs qfq b1 s1 hT Bh Dh tla nA Gw Y6 qec nK qg8 Cp Az ht Bt hn hp J7;go_enter Tryz.func146,Tryz.ntmps146
 go_upto_region 2 with fail
 try simp only[HT.out]
 try rw[Dk.out]
 clear Ah;go_wp2_with fail
 refine qcx.out.mono ?_;rintro e w2 ⟨rfl,h⟩;have Im:=Aa h;clear h;rw[Im.out];go_wp2_with fail
 refine zuv.out.mono ?_;rintro e w3 ⟨rfl,Ak⟩
 have fF:Below (T+1) W1 w3:=by have := Oq.out;rw[this]at Ak;exact Ak
 have dU:=ztq.out w3 fF;have Do:=Aa fF;clear Ak fF;go_wp2_with fail
 refine dU.mono ?_;rintro e w4 ⟨rfl,Al⟩;have Ei:=Aa (Do.out.trans (Al.mono (by have := Oq.out;have := Do.out.size;omega)));clear Al dU
 go_upto_region 6 with fail
 obtain⟨T4,qie⟩:∃ z,w4.heap.size=z:=⟨_,rfl⟩;obtain⟨W5,Ez⟩:∃ W,w4.alloc (.cells (Lh.start X Y).val 189)=W:=⟨_,rfl⟩
 have pO:T+1<=T4:=by have := Ei.out.size;have := Oq.out;omega
 have q5:Blk W5 T4 (Lh.start X Y).val 189:=by rw[<- Ez,<- qie];exact Blk.new w4 _ _
 have b5:Below (T+1) W1 W5:=by rw[<- Ez];exact Ei.out.alloc (by omega) _
 have Wb:=Aa Ez;have qig:=Aa qie;have Jq:=Aa q5;have Hf:=Aa b5;clear Ez q5 b5;rw[show(w4.alloc (Obj.cells #[Value.int IntKind.u64 0,Value.int IntKind.u64 1,Value.int IntKind.u64 0,Value.int IntKind.u64 0,Value.bool false] 189))=W5 from Wb.out];simp only[qig.out];clear qie;go_loopw [7,8,10,11] (fun av bv' uv vv wr=>∃ c:Lh,LhI X Y c/\c.Lt 18446744073709551616/\av=.int .u64 c.a1/\bv'=.int .u64 c.a2/\uv=.int .u64 c.u2/\vv=.int .u64 c.v2/\Hid (Blk wr T4 c.val 189)/\Hid (Below (T+1) W1 wr)) (fun _ bv' _ _ _=>(intOf bv').toNat)
 case atStart=>exact⟨Lh.start X Y,LhI.start qi4,Lh.lt_start hX hY (by decide),rfl,rfl,rfl,rfl,Jq,Hf⟩
 case round =>
  obtain⟨c,hI,qd2,rfl,rfl,rfl,rfl,HQ,HB⟩:=hrel;obtain⟨wo,rfl⟩:∃ wo:World,wo=wr:=⟨_,rfl⟩;have J3:=hI.step hX qd2;have Jt:=hI.lt_go hX qd2;have kB:=hI.go;have Bt:=hI.le;have Qg:=hI.p2;obtain⟨Z1,P4,yK,Ew,Ha,K2,Bu,Bs⟩:=qd2;obtain⟨x1,x2,u0,u1,u2,v0,v1,v2,ev⟩:=c;dsimp only at *;have q0:Blk wo T4 #[.int .u64 u0,.int .u64 u1,.int .u64 v0,.int .u64 v1,.bool ev] 189:=HQ.out;have e0:wo.cell? ⟨T4,0,none⟩=some (.int .u64 u0):=q0.at rfl;have e1:wo.cell? ⟨T4,1,none⟩=some (.int .u64 u1):=q0.at rfl;have e2:wo.cell? ⟨T4,2,none⟩=some (.int .u64 v0):=q0.at rfl;have e3:wo.cell? ⟨T4,3,none⟩=some (.int .u64 v1):=q0.at rfl;have e4:wo.cell? ⟨T4,4,none⟩=some (.bool ev):=q0.at rfl;have f0:wo.frozen? ⟨T4,0,none⟩=false:=Blk.free HQ.out 0;have f1:wo.frozen? ⟨T4,1,none⟩=false:=Blk.free HQ.out 1;have f2:wo.frozen? ⟨T4,2,none⟩=false:=Blk.free HQ.out 2;have f3:wo.frozen? ⟨T4,3,none⟩=false:=Blk.free HQ.out 3;have f4:wo.frozen? ⟨T4,4,none⟩=false:=Blk.free HQ.out 4
  have qr:Blk W1 T #[.int .u64 0,.int .u64 0,.int .u64 0,.int .u64 0,.bool false] 189:=by
   have := Dk.out;rw[<- this,<- HT.out];exact Blk.new w _ _
  have qT:Blk wo T #[.int .u64 0,.int .u64 0,.int .u64 0,.int .u64 0,.bool false] 189:=(HB.out.block T (by omega)).trans qr;have r0:wo.cell? ⟨T,0,none⟩=some (.int .u64 0):=qT.at rfl;have r1:wo.cell? ⟨T,1,none⟩=some (.int .u64 0):=qT.at rfl;have r2:wo.cell? ⟨T,2,none⟩=some (.int .u64 0):=qT.at rfl;have r3:wo.cell? ⟨T,3,none⟩=some (.int .u64 0):=qT.at rfl;have r4:wo.cell? ⟨T,4,none⟩=some (.bool false):=qT.at rfl;have g0:wo.frozen? ⟨T,0,none⟩=false:=qT.free 0;have g1:wo.frozen? ⟨T,1,none⟩=false:=qT.free 1;have g2:wo.frozen? ⟨T,2,none⟩=false:=qT.free 2;have g3:wo.frozen? ⟨T,3,none⟩=false:=qT.free 3;have g4:wo.frozen? ⟨T,4,none⟩=false:=qT.free 4;have zhn:Hid (Below T w wo):=Aa (Bi.out.trans (HB.out.mono (by omega)));have HI:=Aa hI;have qlx:Hid (Blk (((((wo.setCell ⟨T,0,none⟩ (.int .u64 u0)).setCell ⟨T,1,none⟩ (.int .u64 u1)).setCell ⟨T,2,none⟩ (.int .u64 v0)).setCell ⟨T,3,none⟩ (.int .u64 v1)).setCell ⟨T,4,none⟩ (.bool ev)) T #[.int .u64 u0,.int .u64 u1,.int .u64 v0,.int .u64 v1,.bool ev] 189):=Aa (((((qT.set (i:=0) _).set (i:=1) _).set (i:=2) _).set (i:=3) _).set (i:=4) _);have uY:Hid (Below T w (((((wo.setCell ⟨T,0,none⟩ (.int .u64 u0)).setCell ⟨T,1,none⟩ (.int .u64 u1)).setCell ⟨T,2,none⟩ (.int .u64 v0)).setCell ⟨T,3,none⟩ (.int .u64 v1)).setCell ⟨T,4,none⟩ (.bool ev))):=Aa (((((zhn.out.setCell (p:=⟨T,0,none⟩) (Ab _) _).setCell (p:=⟨T,1,none⟩) (Ab _) _).setCell (p:=⟨T,2,none⟩) (Ab _) _).setCell (p:=⟨T,3,none⟩) (Ab _) _).setCell (p:=⟨T,4,none⟩) (Ab _) _);clear qr qT q0 hI
  by_cases Wg:v2<=x2
  ·have qt6:=J3 Wg
   obtain⟨sm,Hm⟩:∃ z,v1+v2=z:=⟨_,rfl⟩;obtain⟨df,qni⟩:∃ z,x1-x2=z:=⟨_,rfl⟩;rw[Hm]at qt6
   have jak:(v1:Int)+(v2:Int)=(sm:Int):=by omega
   have zza:(x1:Int)-(x2:Int)=(df:Int):=by omega
   have Kw:IntKind.u64.wrap (sm:Int)=(sm:Int):=Cg qt6;have Gs:IntKind.u64.wrap (df:Int)=(df:Int):=Cg (by omega)
   by_cases Nw:sm<=df
   ·have hM:Lh.more ⟨x1,x2,u0,u1,u2,v0,v1,v2,ev⟩:=⟨Wg,by show v1+v2<=x1-x2;omega⟩
    have zjj:=Aa (kB hM);have gC:=Aa (Jt hM)
    have zrs:0<x2:=by omega
    have zwt:x1%x2<x2:=Nat.mod_lt _ zrs;have qnm:v1+x1/x2*v2<18446744073709551616:=gC.out.v2;have quw:u1+x1/x2*u2<18446744073709551616:=gC.out.u2;have zmb:x1/x2<=x1:=Nat.div_le_self _ _;obtain⟨q,hq⟩:∃ z,x1/x2=z:=⟨_,rfl⟩;obtain⟨r,hr⟩:∃ z,x1%x2=z:=⟨_,rfl⟩;rw[hq]at qnm quw zmb;rw[hr]at zwt;obtain⟨qv,Hq⟩:∃ z,q*v2=z:=⟨_,rfl⟩;obtain⟨qu,qC⟩:∃ z,q*u2=z:=⟨_,rfl⟩
    have zzh:(q:Int)*(v2:Int)=(qv:Int):=by rw[<- Hq];simp
    have jbs:(q:Int)*(u2:Int)=(qu:Int):=by rw[<- qC];simp
    rw[Hq]at qnm;rw[qC]at quw;obtain⟨vn,Ss⟩:∃ z,v1+qv=z:=⟨_,rfl⟩;obtain⟨un,Sy⟩:∃ z,u1+qu=z:=⟨_,rfl⟩
    have zyn:(v1:Int)+(qv:Int)=(vn:Int):=by omega
    have jaf:(u1:Int)+(qu:Int)=(un:Int):=by omega
    have gV:IntKind.u64.wrap (qv:Int)=qv:=Cg (by omega);have xZ:IntKind.u64.wrap (qu:Int)=qu:=Cg (by omega);have eR:IntKind.u64.wrap (vn:Int)=vn:=Cg (by omega);have u6:IntKind.u64.wrap (un:Int)=un:=Cg (by omega);have zof:IntKind.u64.wrap (q:Int)=q:=Cg (by omega);have qst:IntKind.u64.wrap (r:Int)=r:=Cg (by omega)
    have jQ:(x1:Int).tdiv (x2:Int)=(q:Int):=by rw[Int.tdiv_eq_ediv_of_nonneg (by omega),<- hq];simp
    have mT:(x1:Int).tmod (x2:Int)=(r:Int):=by rw[Int.tmod_eq_emod_of_nonneg (by omega),<- hr];simp
    have qqn:(x1:Int)/(x2:Int)=(q:Int):=by rw[<- hq];simp
    have qyr:(x1:Int)%(x2:Int)=(r:Int):=by rw[<- hr];simp
    have Gp:((x2:Int) != 0)=true:=by simp;omega
    have Gr:((x2:Int)==0)=false:=by simp;omega
    have HE:=Aa (And.intro hq (And.intro hr (And.intro Hq (And.intro qC (And.intro Ss Sy)))));clear kB Jt J3 Hm qni hq hr Hq qC Ss Sy r0 r1 r2 r3 r4 g0 g1 g2 g3 g4 qlx uY
    go_upto_region 7 with fail
    go_quiet (fail)
    obtain⟨wd,iH⟩:∃ z,wo.drewN nq=z:=⟨_,rfl⟩;rw[iH]
    have q0:Blk wd T4 #[.int .u64 u0,.int .u64 u1,.int .u64 v0,.int .u64 v1,.bool ev] 189:=by rw[<- iH];exact HQ.out
    have e0:wd.cell? ⟨T4,0,none⟩=some (.int .u64 u0):=q0.at rfl;have e1:wd.cell? ⟨T4,1,none⟩=some (.int .u64 u1):=q0.at rfl;have e2:wd.cell? ⟨T4,2,none⟩=some (.int .u64 v0):=q0.at rfl;have e3:wd.cell? ⟨T4,3,none⟩=some (.int .u64 v1):=q0.at rfl;have e4:wd.cell? ⟨T4,4,none⟩=some (.bool ev):=q0.at rfl;have f0:wd.frozen? ⟨T4,0,none⟩=false:=q0.free 0;have f1:wd.frozen? ⟨T4,1,none⟩=false:=q0.free 1;have f2:wd.frozen? ⟨T4,2,none⟩=false:=q0.free 2;have f3:wd.frozen? ⟨T4,3,none⟩=false:=q0.free 3;have f4:wd.frozen? ⟨T4,4,none⟩=false:=q0.free 4;have Zb:=Aa (((((q0.set (i:=0) (.int .u64 u1)).set (i:=1) (.int .u64 u2)).set (i:=2) (.int .u64 v1)).set (i:=3) (.int .u64 v2)).set (i:=4) (.bool !ev))
    have M1:Below (T+1) W1 wd:=by rw[<- iH];exact qdg HB.out nq
    have uY:=Aa (((((M1.setCell (p:=⟨T4,0,none⟩) pO (.int .u64 u1)).setCell (p:=⟨T4,1,none⟩) pO (.int .u64 u2)).setCell (p:=⟨T4,2,none⟩) pO (.int .u64 v1)).setCell (p:=⟨T4,3,none⟩) pO (.int .u64 v2)).setCell (p:=⟨T4,4,none⟩) pO (.bool !ev));clear q0 M1 iH;go_wp2_with fail
    obtain⟨rfl,rfl,rfl,rfl,rfl,rfl⟩:=HE.out;exact⟨⟨Lh.go ⟨x1,x2,u0,u1,u2,v0,v1,v2,ev⟩,zjj.out,gC.out,rfl,rfl,rfl,rfl,Zb,uY⟩,by simp[intOf];omega⟩
   ·clear kB Jt J3 Hm qni
    go_wp2_with fail
    have qF:=qlx.out;have k0:=Blk.at (i:=0) qF rfl;have k1:=Blk.at (i:=1) qF rfl;have k2:=Blk.at (i:=2) qF rfl;have k3:=Blk.at (i:=3) qF rfl;have k4:=Blk.at (i:=4) qF rfl;refine bodyPost_ret (v:=.agg #[.int .u64 u0,.int .u64 u1,.int .u64 v0,.int .u64 v1,.bool ev]) (by simp[results,Tryz.results146,go_sem,k0,k1,k2,k3,k4]) rfl ?_;exact⟨s,⟨x1,x2,u0,u1,u2,v0,v1,v2,ev⟩,Sz,by rw[zV.out];exact qso.out,by rw[zV.out,qui.out];exact HI.out,rfl,uY.out⟩
  ·clear kB Jt J3
   go_wp2_with fail
   have qF:=qlx.out;have k0:=Blk.at (i:=0) qF rfl;have k1:=Blk.at (i:=1) qF rfl;have k2:=Blk.at (i:=2) qF rfl;have k3:=Blk.at (i:=3) qF rfl;have k4:=Blk.at (i:=4) qF rfl;refine bodyPost_ret (v:=.agg #[.int .u64 u0,.int .u64 u1,.int .u64 v0,.int .u64 v1,.bool ev]) (by simp[results,Tryz.results146,go_sem,k0,k1,k2,k3,k4]) rfl ?_;exact⟨s,⟨x1,x2,u0,u1,u2,v0,v1,v2,ev⟩,Sz,by rw[zV.out];exact qso.out,by rw[zV.out,qui.out];exact HI.out,rfl,uY.out⟩
end Go.Proofs.YtlldjmagbjjeoaaGreatDoor
