/- Contracts and plain laws, several texts in one (NW19, NZ0). No conditions beyond those stated. -/
import Derived.Test.YtlldjmagbjjeoaaGreatDoorPk6
set_option maxRecDepth 100000
set_option maxHeartbeats 40000000
namespace Go.Proofs.YtlldjmagbjjeoaaGreatDoor
open Go.RowKit
set_option linter.unusedVariables false
theorem qz9 (r:Nat) (hr:r<=2^38) (w:World):(Instr.makeSlice 160 (.int .i64 0) (.int .i64 r)).run Tryz.prog w=.ok (.slice (some ⟨w.heap.size,0,none⟩) 0 r) (w.alloc (.cells (Fa (List.replicate r 0)) 172)):=by
 obtain⟨i0,hi,Cz,Gb,Ft⟩:=info_parts Tryz.infoU32;have h:=run_make (P:=Tryz.prog) w 160 172 i0 _ Tryz.underlying160 hi Cz .i64 .i64 0 r (by omega) (by omega) (by rw[Ft];omega) (by omega);rw[Gb,Int.toNat_natCast]at h;rw[h];have := qhz (.int .u32 0) r;simp only[Value.cells]at this ⊢;rw[this];simp[Fa]
theorem Be.cap0 {base g r:Nat} {W:World} (hq:Blk W g (Fa (List.replicate r 0)) 172) (hb:base<=g) (hr:r<=maxLen):Be 1 172 base W (.slice (some ⟨g,0,none⟩) 0 r) (Qt []) :=
 ⟨⟨rfl,.inr ⟨g,r,_,rfl,hb,hq,Nat.zero_le _,hr,by simp[Fa],by simp[Qt]⟩⟩,Dg.nil 1⟩
theorem Be.ws {base:Nat} {w:World} {v:Value} {l:List Nat} (h:Be 1 172 base w v (Qt l)) (Aj:∀ d∈l,d<Ag):Ws w.heap.size w v l:=by
 obtain⟨a,cap,he,h1,h2,h3,h4⟩:=h.rows
 have hl:(Qt l).length=l.length:=by simp[Qt]
 rw[hl]at he h1;refine⟨⟨a,cap,he,h1,h2,h3,fun i hi=>?_⟩,Aj⟩;obtain⟨b,o,k1,k2,k3⟩:=h4 i (by rw[hl];exact hi);refine⟨b,o,k1,k2,fun j hj=>?_⟩
 obtain rfl:j=0:=by omega
 rw[k3 0 (by omega)];simp[Qt,hi]
theorem zpg (K:Nat) (u v:Value) (la lb:List Nat) (w:World) (Bh:Ws K w u la) (Dh:Ws K w v lb) (hK:K<=w.heap.size) (Mx:lb.length<=la.length) (qkl:la.length<=536870912) :
  Calls Tryz.prog 144 #[u,v] w fun e w'=>∃ v',e=.returned v'/\Bn w'.heap.size w' v' (bv Ag la+bv Ag lb)/\Below w.heap.size w w'/\Bj w.heap.size v':=by
 obtain⟨ua,uc,rfl,Ew,Ha⟩:=Bh.form;obtain⟨va,vc,rfl,Bu,Bs⟩:=Dh.form;unfold maxLen at Ha Bs;have Dj:=Bh.cells;have Fx:=Dh.cells;obtain⟨p,hp⟩:=Ae la.length;obtain⟨q,hq⟩:=Ae lb.length;rw[hp,hq]at Mx
 have zrj:decide (p<q)=false:=by simp;omega
 rw[hp]at qkl Ew ⊢;rw[hq]at Bu ⊢;obtain⟨B,hB⟩:=Ae w.heap.size;rw[hB]at hK ⊢;obtain⟨r,hr⟩:=Ae (p+1)
 have mT:(p:Int)+1=(r:Int):=by omega
 have hm:=qz9 r (by omega) w;rw[hB]at hm;obtain⟨W1,Ah⟩:=Ae ((w.alloc (.cells (Fa (List.replicate r 0)) 172)).alloc (.cells #[.slice (some ⟨B,0,none⟩) 0 r] 160))
 have b1:Below B w W1:=by rw[<- Ah,<- hB];exact(Af _ _).alloc (by simp) _
 have q0:Blk W1 B (Fa (List.replicate r 0)) 172:=by rw[<- Ah,<- hB];exact(Blk.new w _ _).alloc _
 have q1:Blk W1 (B+1) #[.slice (some ⟨B,0,none⟩) 0 r] 160:=by
  rw[<- Ah];have := Blk.new (w.alloc (.cells (Fa (List.replicate r 0)) 172)) #[.slice (some ⟨B,0,none⟩) 0 r] 160;rwa[World.size_alloc,hB]at this
 have s1:W1.heap.size=B+2:=by rw[<- Ah,<- hB];simp
 have Qc:=qy6 (B+1) W1;have HB:=Aa hB;have HW:=Aa Ah;have HP:=Aa hp;have HQ:=Aa hq;have Gm:=Aa Dj;have Oe:=Aa Fx;have Pc:=Aa Qc;have Wf:=Aa q0;have Bc:=Aa q1;have Bi:=Aa b1;have S1:=Aa s1;clear Bh Dh Dj Fx hp hq hB Ah Qc q0 q1 b1 s1;go_enter Tryz.func144,Tryz.ntmps144
 go_upto_region 4 with fail
 try simp only[HB.out]
 rw[HW.out];go_wp2_with fail
 refine Pc.out.mono ?_;rintro e w2 ⟨rfl,Gs⟩;simp only[S1.out,Nat.add_assoc,Nat.reduceAdd]
 have b2':Below W1.heap.size W1 w2:=by rw[Gs];exact(Af _ _).alloc (by simp) _
 have qx:Blk w2 (B+2) #[.pointer (some ⟨B+1,0,none⟩)] 205:=by
  rw[Gs];have := Blk.new W1 #[.pointer (some ⟨B+1,0,none⟩)] 205;rw[S1.out]at this;exact this.alloc _
 have qc:Blk w2 (B+3) #[.int .u64 0] 117:=by
  rw[Gs];have := Blk.new (W1.alloc (.cells #[.pointer (some ⟨B+1,0,none⟩)] 205)) #[.int .u64 0] 117
  rw[World.size_alloc,S1.out,Nat.add_assoc]at this;exact this
 have q12:=Bc.out.below b2' Bc.out.lt;have q02:=Wf.out.below b2' Wf.out.lt
 have s2:w2.heap.size=B+4:=by rw[Gs];simp[S1.out]
 have Bz:Hid (Below B w w2):=Aa (Bi.out.trans (b2'.mono (by have := S1.out;omega)));have pZ:Hid (lK B (B+3) (B+2) (B+1) [] 0 w2):=Aa ⟨qc,qx,_,q12,Be.cap0 q02 (Ab _) (by unfold maxLen;omega)⟩
 have Az:B+4<=w2.heap.size:=by omega
 clear Gs qc qx q12 q02 b2' Pc Wf Bc s2 hm;go_wp2_with fail
 go_loopw [24] (fun iv wr=>∃ (i c:Nat) (X:List Nat),i<=p/\iv=.int .i64 i/\c<=1/\Hid (X.length=i)/\Hid (∀ d∈X,d<Ag)/\Hid (bv Ag X+Ag^i*c=bv Ag (la.take i)+bv Ag (lb.take i))/\Hid (lK B (B+3) (B+2) (B+1) X c wr)/\Hid (Below B w wr)/\B+4<=wr.heap.size) (fun iv _=>p-(intOf iv).toNat)
 case atStart=>exact⟨0,0,[],Nat.zero_le _,rfl,by omega,Aa rfl,Aa (fun d h=>by cases h),Aa (by simp[bv]),pZ,Bz,Az⟩
 case round =>
  obtain⟨i,c,X,hi,rfl,Jv,Co,Ia,Mi,Ju,Cm,Dn⟩:=hrel;obtain⟨wo,rfl⟩:∃ wo:World,wo=wr:=⟨_,rfl⟩
  by_cases Aj:i<p
  ·obtain⟨x,hx⟩:∃ x,la[i]?=some x:=⟨_,Ac (by rw[HP.out];exact Aj)⟩
   obtain⟨xb,xo,ql9,aX,Vp,Ib⟩:=Gm.out i x hx;obtain⟨y,hy⟩:=Ae (lb[i]?.getD 0)
   have Ps:y<Ag:=by
    rw[<- hy]
    cases h:lb[i]? with
    | none=>decide
    | some d=>obtain⟨_,_,_,_,_,h6⟩:=Oe.out i d h;exact h6
   subst ql9;have e1:wo.cell? ⟨xb,xo+i,none⟩=some (.int .u32 (x:Int)):=(Cm.out.cell (p:=⟨xb,xo+i,none⟩) (by show xb<B;omega)).trans Vp;obtain⟨s,hs⟩:=Ae (x+y)
   have P0:(x:Int)+(y:Int)=(s:Int):=by omega
   have Kw:IntKind.u64.wrap (x:Int)=x:=Cg (by unfold Ag at *;omega);have Gs:IntKind.u64.wrap (y:Int)=y:=Cg (by unfold Ag at *;omega);have gV:IntKind.u64.wrap (s:Int)=s:=Cg (by unfold Ag at *;omega);have Qc:=yB B (B+3) (B+2) (B+1) X c s wo Ju.out (by omega) (by unfold Ag at *;omega) (by rw[Co.out];omega);have Pc:=Aa Qc
   have Ka:Hid ((X++[(s+c)%2^32]).length=i+1/\(∀ d∈X++[(s+c)%2^32],d<Ag)/\(s+c)/2^32<=1/\bv Ag (X++[(s+c)%2^32])+Ag^(i+1)*((s+c)/2^32)=bv Ag (la.take (i+1))+bv Ag (lb.take (i+1))):=Aa (by
    refine⟨by rw[List.length_append,Co.out];rfl,fun d hd=>?_,by unfold Ag at *;omega,?_⟩
    ·rcases List.mem_append.1 hd with h | h
     ·exact Ia.out d h
     ·rw[List.mem_singleton.1 h];unfold Ag;omega
    ·rw[Wk,Wk,hy,hx,Option.getD_some]
     exact qsq (b:=Ag) Co.out Mi.out (by omega))
   have HX:=Aa hx;have HY:=Aa hy;clear hx Vp Qc hs Ju
   by_cases Zl:i<q
   ·obtain⟨y',M9⟩:∃ y',lb[i]?=some y':=⟨_,Ac (by rw[HQ.out];exact Zl)⟩
    obtain rfl:y'=y:=by rw[<- HY.out,M9,Option.getD_some]
    obtain⟨yb,yo,qi5,zcr,sQ,_⟩:=Oe.out i y' M9;subst qi5;have e2:wo.cell? ⟨yb,yo+i,none⟩=some (.int .u32 (y':Int)):=(Cm.out.cell (p:=⟨yb,yo+i,none⟩) (by show yb<B;omega)).trans sQ;clear sQ M9;go_wp2_with fail
    refine Pc.out.mono ?_;rintro e w5 ⟨rfl,Fb,Kg,Aq⟩;obtain⟨k1,k2,k3,k4⟩:=Ka.out;have Qk:=Aa k1;have Sh:=Aa k2;have Sf:=Aa k4;have Um:=Aa Fb;have G1:Hid (Below B w w5):=Aa (Cm.out.trans (Aq.mono (by omega)));clear k1 k2 k4 Fb Aq Pc Ka;obtain⟨d,hd⟩:=Ae ((s+c)%2^32);obtain⟨c',Iz⟩:=Ae ((s+c)/2^32);rw[hd]at Qk Sh Sf Um;rw[Iz]at Sf Um k3;clear hd Iz;go_wp2_with fail
    exact⟨⟨i+1,c',X++[d],by omega,by go_num,k3,Qk,Sh,Sf,Um,G1,by omega⟩,by simp[intOf];omega⟩
   ·obtain rfl:y=0:=by rw[<- HY.out,List.getElem?_eq_none (by rw[HQ.out];omega)];rfl
    have O3:(x:Int)=(s:Int):=by omega
    obtain rfl:x=s:=by omega
    clear O3 P0;go_wp2_with fail
    refine Pc.out.mono ?_;rintro e w5 ⟨rfl,Fb,Kg,Aq⟩;obtain⟨k1,k2,k3,k4⟩:=Ka.out;have Qk:=Aa k1;have Sh:=Aa k2;have Sf:=Aa k4;have Um:=Aa Fb;have G1:Hid (Below B w w5):=Aa (Cm.out.trans (Aq.mono (by omega)));clear k1 k2 k4 Fb Aq Pc Ka;obtain⟨d,hd⟩:=Ae ((x+c)%2^32);obtain⟨c',Iz⟩:=Ae ((x+c)/2^32);rw[hd]at Qk Sh Sf Um;rw[Iz]at Sf Um k3;clear hd Iz;go_wp2_with fail
    exact⟨⟨i+1,c',X++[d],by omega,by go_num,k3,Qk,Sh,Sf,Um,G1,by omega⟩,by simp[intOf];omega⟩
  ·obtain rfl:p=i:=by omega
   have Qc:=yB B (B+3) (B+2) (B+1) X c 0 wo Ju.out (by omega) (by omega) (by rw[Co.out];omega);rw[show(0+c)%2^32=c by omega,show(0+c)/2^32=0 by omega]at Qc;have Pc:=Aa Qc
   have B9:bv Ag (X++[c])=bv Ag la+bv Ag lb:=by
    rw[A5,Co.out,Mi.out,List.take_of_length_le (by rw[HP.out];exact Ab _),List.take_of_length_le (by rw[HQ.out];omega)]
   have qfj:=Aa B9
   have pN:Hid (∀ d∈X++[c],d<Ag):=Aa fun d hd=>by
    rcases List.mem_append.1 hd with h | h
    ·exact Ia.out d h
    ·rw[List.mem_singleton.1 h];unfold Ag;omega
   clear Qc B9 Ju;go_wp2_with fail
   refine Pc.out.mono ?_;rintro e w5 ⟨rfl,Fb,Kg,Aq⟩;obtain⟨_,_,vv,qv,ho⟩:=Fb;have Ki:=ho.ws pN.out
   have Hv:∀ rr,vv.ownBlock=some rr->B<=rr:=fun rr e=>ho.low e
   have Pm:=Aa Hv;have tW:Below B w w5:=Cm.out.trans (Aq.mono (by omega));have G1:=Aa tW;have c4:=qv.one.1;have ht:=Yr w5.heap.size vv _ w5 Ki;rw[qfj.out]at ht;obtain⟨xa,xc,rfl,_⟩:=Ki.form;have Pa:=Aa ht;obtain⟨xn,Lf⟩:∃ z,(X++[c]).length=z:=⟨_,rfl⟩;rw[Lf]at Pa c4 Pm;clear ht Ki Hv tW Aq Pc ho qv Lf;go_wp2_with fail
   refine Pa.out.mono ?_;rintro e w6 ⟨a6,n6,c6,k6,he,rfl,Fw,rfl⟩;simp only[Value.slice.injEq]at he;obtain⟨rfl,rfl,rfl⟩:=he;have Js:=Aa Fw
   have Xt:Hid (Bj B (.slice xa k6 xc)):=Aa (by
    intro b o m c e
    simp only[Value.slice.injEq]at e
    exact Pm.out b (by rw[e.1];rfl))
   clear Fw Pa;go_wp2_with fail
   go_ret
   exact⟨_,rfl,Js.out,G1.out,Xt.out⟩
theorem zj9 (K:Nat) (u v:Value) (la lb:List Nat) (w:World) (Bh:Ws K w u la) (Dh:Ws K w v lb) (hK:K<=w.heap.size) (Mx:la.length<lb.length) (qkl:lb.length<=536870912) :
  Calls Tryz.prog 144 #[u,v] w fun e w'=>∃ v',e=.returned v'/\Bn w'.heap.size w' v' (bv Ag lb+bv Ag la)/\Below w.heap.size w w'/\Bj w.heap.size v':=by
 obtain⟨ua,uc,rfl,Ew,Ha⟩:=Bh.form;obtain⟨va,vc,rfl,Bu,Bs⟩:=Dh.form;unfold maxLen at Ha Bs;have Dj:=Dh.cells;have Fx:=Bh.cells;obtain⟨p,hp⟩:=Ae lb.length;obtain⟨q,hq⟩:=Ae la.length;rw[hp,hq]at Mx
 have zrj:decide (q<p)=true:=by simp;omega
 rw[hp]at qkl Bu ⊢;rw[hq]at Ew ⊢;obtain⟨B,hB⟩:=Ae w.heap.size;rw[hB]at hK ⊢;obtain⟨r,hr⟩:=Ae (p+1)
 have mT:(p:Int)+1=(r:Int):=by omega
 have hm:=qz9 r (by omega) w;rw[hB]at hm;obtain⟨W1,Ah⟩:=Ae ((w.alloc (.cells (Fa (List.replicate r 0)) 172)).alloc (.cells #[.slice (some ⟨B,0,none⟩) 0 r] 160))
 have b1:Below B w W1:=by rw[<- Ah,<- hB];exact(Af _ _).alloc (by simp) _
 have q0:Blk W1 B (Fa (List.replicate r 0)) 172:=by rw[<- Ah,<- hB];exact(Blk.new w _ _).alloc _
 have q1:Blk W1 (B+1) #[.slice (some ⟨B,0,none⟩) 0 r] 160:=by
  rw[<- Ah];have := Blk.new (w.alloc (.cells (Fa (List.replicate r 0)) 172)) #[.slice (some ⟨B,0,none⟩) 0 r] 160;rwa[World.size_alloc,hB]at this
 have s1:W1.heap.size=B+2:=by rw[<- Ah,<- hB];simp
 have Qc:=qy6 (B+1) W1;have HB:=Aa hB;have HW:=Aa Ah;have HP:=Aa hp;have HQ:=Aa hq;have Gm:=Aa Dj;have Oe:=Aa Fx;have Pc:=Aa Qc;have Wf:=Aa q0;have Bc:=Aa q1;have Bi:=Aa b1;have S1:=Aa s1;clear Bh Dh Dj Fx hp hq hB Ah Qc q0 q1 b1 s1;go_enter Tryz.func144,Tryz.ntmps144
 go_upto_region 4 with fail
 try simp only[HB.out]
 rw[HW.out];go_wp2_with fail
 refine Pc.out.mono ?_;rintro e w2 ⟨rfl,Gs⟩;simp only[S1.out,Nat.add_assoc,Nat.reduceAdd]
 have b2':Below W1.heap.size W1 w2:=by rw[Gs];exact(Af _ _).alloc (by simp) _
 have qx:Blk w2 (B+2) #[.pointer (some ⟨B+1,0,none⟩)] 205:=by
  rw[Gs];have := Blk.new W1 #[.pointer (some ⟨B+1,0,none⟩)] 205;rw[S1.out]at this;exact this.alloc _
 have qc:Blk w2 (B+3) #[.int .u64 0] 117:=by
  rw[Gs];have := Blk.new (W1.alloc (.cells #[.pointer (some ⟨B+1,0,none⟩)] 205)) #[.int .u64 0] 117
  rw[World.size_alloc,S1.out,Nat.add_assoc]at this;exact this
 have q12:=Bc.out.below b2' Bc.out.lt;have q02:=Wf.out.below b2' Wf.out.lt
 have s2:w2.heap.size=B+4:=by rw[Gs];simp[S1.out]
 have Bz:Hid (Below B w w2):=Aa (Bi.out.trans (b2'.mono (by have := S1.out;omega)));have pZ:Hid (lK B (B+3) (B+2) (B+1) [] 0 w2):=Aa ⟨qc,qx,_,q12,Be.cap0 q02 (Ab _) (by unfold maxLen;omega)⟩
 have Az:B+4<=w2.heap.size:=by omega
 clear Gs qc qx q12 q02 b2' Pc Wf Bc s2 hm;go_wp2_with fail
 go_loopw [24] (fun iv wr=>∃ (i c:Nat) (X:List Nat),i<=p/\iv=.int .i64 i/\c<=1/\Hid (X.length=i)/\Hid (∀ d∈X,d<Ag)/\Hid (bv Ag X+Ag^i*c=bv Ag (lb.take i)+bv Ag (la.take i))/\Hid (lK B (B+3) (B+2) (B+1) X c wr)/\Hid (Below B w wr)/\B+4<=wr.heap.size) (fun iv _=>p-(intOf iv).toNat)
 case atStart=>exact⟨0,0,[],Nat.zero_le _,rfl,by omega,Aa rfl,Aa (fun d h=>by cases h),Aa (by simp[bv]),pZ,Bz,Az⟩
 case round =>
  obtain⟨i,c,X,hi,rfl,Jv,Co,Ia,Mi,Ju,Cm,Dn⟩:=hrel;obtain⟨wo,rfl⟩:∃ wo:World,wo=wr:=⟨_,rfl⟩
  by_cases Aj:i<p
  ·obtain⟨x,hx⟩:∃ x,lb[i]?=some x:=⟨_,Ac (by rw[HP.out];exact Aj)⟩
   obtain⟨xb,xo,ql9,aX,Vp,Ib⟩:=Gm.out i x hx;obtain⟨y,hy⟩:=Ae (la[i]?.getD 0)
   have Ps:y<Ag:=by
    rw[<- hy]
    cases h:la[i]? with
    | none=>decide
    | some d=>obtain⟨_,_,_,_,_,h6⟩:=Oe.out i d h;exact h6
   subst ql9;have e1:wo.cell? ⟨xb,xo+i,none⟩=some (.int .u32 (x:Int)):=(Cm.out.cell (p:=⟨xb,xo+i,none⟩) (by show xb<B;omega)).trans Vp;obtain⟨s,hs⟩:=Ae (x+y)
   have P0:(x:Int)+(y:Int)=(s:Int):=by omega
   have Kw:IntKind.u64.wrap (x:Int)=x:=Cg (by unfold Ag at *;omega);have Gs:IntKind.u64.wrap (y:Int)=y:=Cg (by unfold Ag at *;omega);have gV:IntKind.u64.wrap (s:Int)=s:=Cg (by unfold Ag at *;omega);have Qc:=yB B (B+3) (B+2) (B+1) X c s wo Ju.out (by omega) (by unfold Ag at *;omega) (by rw[Co.out];omega);have Pc:=Aa Qc
   have Ka:Hid ((X++[(s+c)%2^32]).length=i+1/\(∀ d∈X++[(s+c)%2^32],d<Ag)/\(s+c)/2^32<=1/\bv Ag (X++[(s+c)%2^32])+Ag^(i+1)*((s+c)/2^32)=bv Ag (lb.take (i+1))+bv Ag (la.take (i+1))):=Aa (by
    refine⟨by rw[List.length_append,Co.out];rfl,fun d hd=>?_,by unfold Ag at *;omega,?_⟩
    ·rcases List.mem_append.1 hd with h | h
     ·exact Ia.out d h
     ·rw[List.mem_singleton.1 h];unfold Ag;omega
    ·rw[Wk,Wk,hy,hx,Option.getD_some]
     exact qsq (b:=Ag) Co.out Mi.out (by omega))
   have HX:=Aa hx;have HY:=Aa hy;clear hx Vp Qc hs Ju
   by_cases Zl:i<q
   ·obtain⟨y',M9⟩:∃ y',la[i]?=some y':=⟨_,Ac (by rw[HQ.out];exact Zl)⟩
    obtain rfl:y'=y:=by rw[<- HY.out,M9,Option.getD_some]
    obtain⟨yb,yo,qi5,zcr,sQ,_⟩:=Oe.out i y' M9;subst qi5;have e2:wo.cell? ⟨yb,yo+i,none⟩=some (.int .u32 (y':Int)):=(Cm.out.cell (p:=⟨yb,yo+i,none⟩) (by show yb<B;omega)).trans sQ;clear sQ M9;go_wp2_with fail
    refine Pc.out.mono ?_;rintro e w5 ⟨rfl,Fb,Kg,Aq⟩;obtain⟨k1,k2,k3,k4⟩:=Ka.out;have Qk:=Aa k1;have Sh:=Aa k2;have Sf:=Aa k4;have Um:=Aa Fb;have G1:Hid (Below B w w5):=Aa (Cm.out.trans (Aq.mono (by omega)));clear k1 k2 k4 Fb Aq Pc Ka;obtain⟨d,hd⟩:=Ae ((s+c)%2^32);obtain⟨c',Iz⟩:=Ae ((s+c)/2^32);rw[hd]at Qk Sh Sf Um;rw[Iz]at Sf Um k3;clear hd Iz;go_wp2_with fail
    exact⟨⟨i+1,c',X++[d],by omega,by go_num,k3,Qk,Sh,Sf,Um,G1,by omega⟩,by simp[intOf];omega⟩
   ·obtain rfl:y=0:=by rw[<- HY.out,List.getElem?_eq_none (by rw[HQ.out];omega)];rfl
    have O3:(x:Int)=(s:Int):=by omega
    obtain rfl:x=s:=by omega
    clear O3 P0;go_wp2_with fail
    refine Pc.out.mono ?_;rintro e w5 ⟨rfl,Fb,Kg,Aq⟩;obtain⟨k1,k2,k3,k4⟩:=Ka.out;have Qk:=Aa k1;have Sh:=Aa k2;have Sf:=Aa k4;have Um:=Aa Fb;have G1:Hid (Below B w w5):=Aa (Cm.out.trans (Aq.mono (by omega)));clear k1 k2 k4 Fb Aq Pc Ka;obtain⟨d,hd⟩:=Ae ((x+c)%2^32);obtain⟨c',Iz⟩:=Ae ((x+c)/2^32);rw[hd]at Qk Sh Sf Um;rw[Iz]at Sf Um k3;clear hd Iz;go_wp2_with fail
    exact⟨⟨i+1,c',X++[d],by omega,by go_num,k3,Qk,Sh,Sf,Um,G1,by omega⟩,by simp[intOf];omega⟩
  ·obtain rfl:p=i:=by omega
   have Qc:=yB B (B+3) (B+2) (B+1) X c 0 wo Ju.out (by omega) (by omega) (by rw[Co.out];omega);rw[show(0+c)%2^32=c by omega,show(0+c)/2^32=0 by omega]at Qc;have Pc:=Aa Qc
   have B9:bv Ag (X++[c])=bv Ag lb+bv Ag la:=by
    rw[A5,Co.out,Mi.out,List.take_of_length_le (by rw[HP.out];exact Ab _),List.take_of_length_le (by rw[HQ.out];omega)]
   have qfj:=Aa B9
   have pN:Hid (∀ d∈X++[c],d<Ag):=Aa fun d hd=>by
    rcases List.mem_append.1 hd with h | h
    ·exact Ia.out d h
    ·rw[List.mem_singleton.1 h];unfold Ag;omega
   clear Qc B9 Ju;go_wp2_with fail
   refine Pc.out.mono ?_;rintro e w5 ⟨rfl,Fb,Kg,Aq⟩;obtain⟨_,_,vv,qv,ho⟩:=Fb;have Ki:=ho.ws pN.out
   have Hv:∀ rr,vv.ownBlock=some rr->B<=rr:=fun rr e=>ho.low e
   have Pm:=Aa Hv;have tW:Below B w w5:=Cm.out.trans (Aq.mono (by omega));have G1:=Aa tW;have c4:=qv.one.1;have ht:=Yr w5.heap.size vv _ w5 Ki;rw[qfj.out]at ht;obtain⟨xa,xc,rfl,_⟩:=Ki.form;have Pa:=Aa ht;obtain⟨xn,Lf⟩:∃ z,(X++[c]).length=z:=⟨_,rfl⟩;rw[Lf]at Pa c4 Pm;clear ht Ki Hv tW Aq Pc ho qv Lf;go_wp2_with fail
   refine Pa.out.mono ?_;rintro e w6 ⟨a6,n6,c6,k6,he,rfl,Fw,rfl⟩;simp only[Value.slice.injEq]at he;obtain⟨rfl,rfl,rfl⟩:=he;have Js:=Aa Fw
   have Xt:Hid (Bj B (.slice xa k6 xc)):=Aa (by
    intro b o m c e
    simp only[Value.slice.injEq]at e
    exact Pm.out b (by rw[e.1];rfl))
   clear Fw Pa;go_wp2_with fail
   go_ret
   exact⟨_,rfl,Js.out,G1.out,Xt.out⟩
theorem zwg (K:Nat) (u v:Value) (m n:Nat) (w:World) (hu:Bn K w u m) (hv:Bn K w v n) (hK:K<=w.heap.size) (hm:m<Ag^536870912) (hn:n<Ag^536870912) :
  Calls Tryz.prog 144 #[u,v] w fun e w'=>∃ v',e=.returned v'/\Bn w'.heap.size w' v' (m+n)/\Below w.heap.size w w'/\Bj w.heap.size v':=by
 obtain⟨la,Bh,tla,rfl⟩:=hu;obtain⟨lb,Dh,tlb,rfl⟩:=hv
 by_cases h:la.length<lb.length
 ·rw[Nat.add_comm];exact zj9 K u v la lb w Bh Dh hK h (Yg tlb hn)
 ·exact zpg K u v la lb w Bh Dh hK (by omega) (Yg tla hm)
def LB (k:Nat):Nat:=65536^k
theorem zgz (a b:Nat):LB (a+b)=LB a*LB b:=Nat.pow_add _ _ _
theorem cP {a b:Nat} (h:a<=b):LB a<=LB b:=Nat.pow_le_pow_right (by decide) h
theorem qrk (a:Nat):0<LB a:=Nat.pow_pos (by decide)
theorem Ts {m n a b:Nat} (hm:m<LB a) (hn:n<LB b):m*n<LB (a+b):=by
 rw[zgz]
 rcases Nat.eq_zero_or_pos n with h | h
 ·subst h;exact Nat.mul_pos (qrk a) (qrk b)
 ·exact Nat.lt_of_lt_of_le (Nat.mul_lt_mul_of_pos_right hm h) (Nat.mul_le_mul_left _ (Nat.le_of_lt hn))
theorem sG {m n a:Nat} (hm:m<LB a) (hn:n<LB a):m+n<LB (a+1):=by
 have:LB (a+1)=LB a*65536:=Nat.pow_succ 65536 a
 omega
theorem Bl {m a b:Nat} (hm:m<LB a) (h:a<=b):m<LB b:=Nat.lt_of_lt_of_le hm (cP h)
theorem N9 {m a k:Nat} (hm:m<LB a) (h:a<=k):m<Ag^k:=by
 refine Nat.lt_of_lt_of_le hm (Nat.le_trans (cP h) ?_);exact Nat.pow_le_pow_left (by decide) k
theorem cN:∀ l:List Nat,As l=bv 65536 l
 | []=>rfl
 | d::r=>by rw[As,bv,cN r]
theorem Zw {l:List Nat} {k:Nat} (hl:∀ d∈l,d<65536) (ht:Hr l):l.length<=k ↔ As l<LB k:=by
 rw[cN];refine⟨fun h=>Nat.lt_of_lt_of_le (Nd l hl) (cP h),fun h=>?_⟩
 rcases Nat.lt_or_ge k l.length with h1 | h1
 ·have h2:=kF (b:=65536) ht (fun e=>by rw[e]at h1;simp at h1)
  have h3:LB k<=LB (l.length-1):=cP (by omega);unfold LB at h h3;omega
 ·exact h1
theorem qcl {l:List Nat} {m:Nat} {g:Bool} (ht:Hr l) (hl:l.length<=m) (hg:l.length=0->g=false):wOk m g l=true:=by
 unfold wOk
 by_cases h0:l.length=0
 ·rw[if_pos h0,hg h0];rfl
 ·rw[if_neg h0]
  rcases ht with h | h
  ·rw[h]at h0;simp at h0
  ·rw[List.getLast?_eq_getElem?]at h
   simp[hl,h]
theorem vD {l:List Nat} {m:Nat} {g:Bool} (h:wOk m g l=true):Hr l/\l.length<=m/\(l.length=0->g=false):=by
 unfold wOk at h
 by_cases h0:l.length=0
 ·rw[if_pos h0]at h
  exact⟨.inl (List.eq_nil_of_length_eq_zero h0),by omega,fun _=>by simpa using h⟩
 ·rw[if_neg h0]at h
  simp only[Bool.and_eq_true,decide_eq_true_eq,bne_iff_ne,ne_eq]at h;refine⟨.inr ?_,h.1,fun e=>absurd e h0⟩;rw[List.getLast?_eq_getElem?];exact h.2
theorem Lm.set {K r i L:Nat} {w:World} {v x:Value} {l:List Nat} (h:Lm K w v l) (hn:Bj L v) (hr:r<L):Lm K (w.setCell ⟨r,i,none⟩ x) v l:=by
 obtain⟨⟨a,cap,he,h1,h2,h3,h4⟩,h5⟩:=h;refine⟨⟨a,cap,he,h1,h2,h3,fun j hj=>?_⟩,h5⟩;obtain⟨b,o,k1,k2,k3⟩:=h4 j hj;refine⟨b,o,k1,k2,fun t ht=>?_⟩;have := hn b o _ _ (by rw[he,k1]);exact(Fm w r i x).cell (k3 t ht) (by simp;omega)
theorem Ln.set {K r i L:Nat} {w:World} {v x:Value} {n:Nat} (h:Ln K w v n) (hn:Bj L v) (hr:r<L):Ln K (w.setCell ⟨r,i,none⟩ x) v n:=by
 obtain⟨l,h1,h2⟩:=h;exact⟨l,h1.set hn hr,h2⟩
theorem Ln.form {K n:Nat} {w:World} {v:Value} (h:Ln K w v n):∃ a m c,v=.slice a m c/\m<=c/\c<=maxLen/\(m=0 ↔ n=0)/\∀ k,m<=k ↔ n<LB k:=by
 obtain⟨l,h1,h2,rfl⟩:=h;obtain⟨a,c,rfl,h3,h4⟩:=h1.form
 have hk:=fun k=>Zw (k:=k) h1.2 h2
 refine⟨a,_,c,rfl,h3,h4,?_,hk⟩;have := hk 0;unfold LB at this;simp only[Nat.pow_zero,Nat.le_zero]at this;omega
theorem Bn.form {K n:Nat} {w:World} {v:Value} (h:Bn K w v n):∃ a m c,v=.slice a m c/\m<=c/\c<=maxLen:=by
 obtain⟨l,h1,_⟩:=h;obtain⟨a,c,rfl,h3,h4⟩:=h1.form;exact⟨a,_,c,rfl,h3,h4⟩
theorem zo3 {l:List Nat} {m:Nat} (hm:(l.length+1)/2=m+1) (ht:Hr l) (hl:∀ d∈l,d<65536):pkW l m≠0:=by
 rcases ht with h | h
 ·subst h;simp at hm
 ·rw[List.getLast?_eq_getElem?]at h
  unfold pkW
  by_cases he:l.length=2*m+1
  ·rw[he,show 2*m+1-1=2*m by omega]at h;omega
  ·rw[show l.length-1=2*m+1 by omega]at h;omega
theorem zoh {l:List Nat} (ht:Hr l) (hl:∀ d∈l,d<65536):Hr (Jn ((l.length+1)/2) l):=by
 obtain⟨m,hm⟩:=Ae ((l.length+1)/2);rw[hm]
 cases m with
 | zero=>exact .inl (by simp[Jn])
 | succ m =>
  right;rw[List.getLast?_eq_getElem?,P5,Nat.add_sub_cancel,R5 l (by omega)];exact zo3 hm ht hl
theorem zl9 {l:List Nat} {m:Nat} (hl:∀ d∈l,d<65536):∀ d∈Jn m l,d<Ag:=fun d hd=>by
 obtain⟨j,_,rfl⟩:=List.mem_map.1 hd
 have hg:∀ i:Nat,l[i]?.getD 0<65536:=fun i=>by
  cases h:l[i]? with
  | none=>decide
  | some x=>exact hl x (List.mem_of_getElem? h)
 have h1:=hg (2*j);have h2:=hg (2*j+1);unfold pkW Ag;omega
theorem Yy (K:Nat) (v:Value) (n:Nat) (w:World) (h:Ln K w v n) (hK:K<=w.heap.size) (hn:n<LB 1024) :
  Calls Tryz.prog 123 #[v] w fun e w'=>∃ v',e=.returned v'/\Bn w'.heap.size w' v' n/\Below w.heap.size w w':=by
 obtain⟨l,h1,h2,rfl⟩:=h;have hl:=(Zw h1.2 h2).2 hn;refine(zpm K v l w h1 hK (by omega)).mono ?_;rintro e w' ⟨rfl,hq,hb,hs⟩;have hw:=qea hq (K:=w'.heap.size) (by omega) (by rw[P5];unfold maxLen;omega) (zl9 h1.2);rw[P5]at hw;exact⟨_,rfl,⟨_,hw,zoh h2 h1.2,qwg l _ (by omega)⟩,hb⟩
def sgz (g:Bool) (m:Nat):Int:=if g then -(m:Int)else m
structure Zn (K:Nat) (w:World) (g:Bool) (u:Value) (z:Int):Prop where
 ln:Ln K w u z.natAbs
 sg:g=decide (z<0)
theorem Zn.below {K K' B:Nat} {w w':World} {g:Bool} {u:Value} {z:Int} (h:Zn K w g u z) (hb:Below B w w') (hB:K<=B) (hK:K<=K'):Zn K' w' g u z:=⟨h.ln.below hb hB hK,h.sg⟩
theorem Zn.form {K:Nat} {w:World} {g:Bool} {u:Value} {z:Int} (h:Zn K w g u z):∃ a m c,u=.slice a m c:=by obtain⟨a,m,c,h,_⟩:=h.ln.form;exact⟨a,m,c,h⟩
theorem Zn.set {K r i L:Nat} {w:World} {g:Bool} {u x:Value} {z:Int} (h:Zn K w g u z) (hn:Bj L u) (hr:r<L):Zn K (w.setCell ⟨r,i,none⟩ x) g u z:=⟨h.ln.set hn hr,h.sg⟩
theorem Zn.set2 {K r L:Nat} {w:World} {g:Bool} {u x y:Value} {z:Int} (h:Zn K w g u z) (hn:Bj L u) (hr:r<L):Zn K ((w.setCell ⟨r,0,none⟩ x).setCell ⟨r,1,none⟩ y) g u z:=(h.set hn hr).set hn hr
theorem Zn.val {K:Nat} {w:World} {g:Bool} {u:Value} {z:Int} (h:Zn K w g u z):sgz g z.natAbs=z:=by
 rw[h.sg];unfold sgz;by_cases h0:z<0<;>simp[h0]<;>omega
theorem Zn.mk' {K:Nat} {w:World} {g:Bool} {u:Value} {m:Nat} {z:Int} (h:Ln K w u m) (hz:sgz g m=z):Zn K w (g && decide (0<m)) u z:=by
 subst hz;unfold sgz
 cases g with
 | false=>exact⟨by simpa using h,by simp⟩
 | true=>exact⟨by simpa using h,by simp⟩
theorem Zn.nil (K:Nat) (w:World):Zn K w false (.slice none 0 0) 0:=⟨⟨[],Lm.nil K w,Hr.nil,rfl⟩,rfl⟩
def ZxN (L K:Nat) (w:World) (x:Value) (z:Int):Prop:=∃ g u,x=.agg #[.bool g,u]/\Zn K w g u z/\Bj L u
theorem ZxN.mk {L K:Nat} {w:World} {g:Bool} {u:Value} {z:Int} (h:Zn K w g u z) (hn:Bj L u):ZxN L K w (.agg #[.bool g,u]) z:=⟨g,u,rfl,h,hn⟩
theorem qw6 (w:World) (r:Nat) (x y:Value):((w.setCell ⟨r,0,none⟩ x).setCell ⟨r,1,none⟩ y).heap.size=w.heap.size:=by simp[World.setCell]
theorem tQ {B:Nat} {w w':World} (h:Below B w w') {r:Nat} (hr:B<=r) (x y:Value):Below B w ((w'.setCell ⟨r,0,none⟩ x).setCell ⟨r,1,none⟩ y):=(h.setCell (p:=⟨r,0,none⟩) hr x).setCell (p:=⟨r,1,none⟩) hr y
end Go.Proofs.YtlldjmagbjjeoaaGreatDoor
