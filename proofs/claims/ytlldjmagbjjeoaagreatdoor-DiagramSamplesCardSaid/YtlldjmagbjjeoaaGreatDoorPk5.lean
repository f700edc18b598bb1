/- Contracts and plain laws, several texts in one (NW4, NW5, NW6, NW7). No conditions beyond those stated. -/
import Derived.Test.YtlldjmagbjjeoaaGreatDoorPk4
set_option maxRecDepth 100000
set_option maxHeartbeats 40000000
namespace Go.Proofs.YtlldjmagbjjeoaaGreatDoor
open Go.RowKit
set_option linter.unusedVariables false
theorem Ws.cells {K:Nat} {w:World} {a:Option Addr} {n c:Nat} {l:List Nat} (h:Ws K w (.slice a n c) l):∀ i d:Nat,l[i]?=some d->∃ b o,a=some ⟨b,o,none⟩/\b<K/\w.cell? ⟨b,o+i,none⟩=some (.int .u32 (d:Int))/\d<Ag:=fun i d hd=>by
 obtain⟨b,o,cap,he,_,_,hb,hc⟩:=h.at (by have := (List.getElem?_eq_some_iff.1 hd).1;omega);simp only[Value.slice.injEq]at he;exact⟨b,o,he.1,hb,hc i d hd,h.lt d (List.mem_of_getElem? hd)⟩
theorem qea {K b:Nat} {w:World} {l:List Nat} {t:TypeId} (hq:Blk w b (Fa l) t) (hb:b<K) (hm:l.length<=maxLen) (Aj:∀ d∈l,d<Ag):Ws K w (.slice (some ⟨b,0,none⟩) l.length l.length) l :=
 Ws.mk' (Ab _) hm hb (fun i d hd=>by rw[Nat.zero_add];exact hq.at (rG hd)) Aj
theorem zmz {x y o c:Nat} (hx:x<Ag) (hy:y<Ag) (ho:o<Ag) (hc:c<Ag):x*y<=18446744065119617025/\(x*y+o+c)/Ag<Ag:=by
 unfold Ag at *;have h1:x*y<=4294967295*4294967295:=Nat.mul_le_mul (by omega) (by omega);omega
theorem Un {l:List Nat} {i x:Nat} (h:∀ d∈l,d<Ag) (hx:x<Ag):∀ d∈l.set i x,d<Ag:=fun d hd=>by
 rcases List.mem_or_eq_of_mem_set hd with h1 | h1
 ·exact h d h1
 ·rw[h1];exact hx
theorem zpo (K:Nat) (u v:Value) (m n:Nat) (w:World) (hu:Bn K w u m) (hv:Bn K w v n) (hK:K<=w.heap.size) (Qd:m<Ag^536870912) (A3:n<Ag^536870912) :
  Calls Tryz.prog 133 #[u,v] w fun e w'=>∃ v',e=.returned v'/\Bn w'.heap.size w' v' (m*n)/\Below w.heap.size w w'/\Bj w.heap.size v':=by
 obtain⟨la,Bh,tla,rfl⟩:=hu;obtain⟨lb,Dh,tlb,rfl⟩:=hv
 have Cc:∀ {l:List Nat},Hr l->bv Ag l<Ag^536870912->l.length<=536870912:=fun {l} ht h=>by
  by_cases h0:l=[]
  ·rw[h0];exact Nat.zero_le _
  ·have h1:=kF (b:=Ag) ht h0
   have h2:=Nat.lt_of_le_of_lt h1 h;have h3:=(Nat.pow_lt_pow_iff_right (a:=Ag) (by decide)).1 h2;omega
 have En:=Cc tla Qd;have Nr:=Cc tlb A3;clear Cc Qd A3 tla tlb;obtain⟨ua,uc,rfl,Ew,Ha⟩:=Bh.form;obtain⟨va,vc,rfl,Bu,Bs⟩:=Dh.form;unfold maxLen at Ha Bs;obtain⟨p,hp⟩:=Ae la.length;obtain⟨q,hq⟩:=Ae lb.length;have Dj:=Bh.cells;have Fx:=Dh.cells;rw[hp]at Ew En ⊢;rw[hq]at Bu Nr ⊢;obtain⟨T,hT⟩:=Ae w.heap.size;rw[hT]at hK ⊢;obtain⟨r,hr⟩:=Ae (p+q)
 have Dw:(p:Int)+(q:Int)=(r:Int):=by omega
 have pR:r<=2^38:=by omega
 have Fs:=fC r pR w;rw[hT]at Fs;obtain⟨W1,Ah⟩:∃ W,w.alloc (.cells (Fa (List.replicate r 0)) 172)=W:=⟨_,rfl⟩
 have b1:Below T w W1:=by rw[<- Ah,<- hT];exact Af _ _
 have q1:Blk W1 T (Fa (List.replicate r 0)) 172:=by rw[<- Ah,<- hT];exact Blk.new w _ _
 have s1:W1.heap.size=T+1:=by rw[<- Ah,<- hT];simp
 have HP:=Aa hp;have HQ:=Aa hq;have HT:=Aa hT;have HR:=Aa hr;have Gm:=Aa Dj;have Oe:=Aa Fx;have Dk:=Aa Ah;have Bi:=Aa b1;have Bc:=Aa q1;have S1:=Aa s1;clear Bh Dh hp hq hT Dj Fx Ah b1 q1 s1;go_enter Tryz.func133,Tryz.ntmps133
 go_upto_region 2 with fail
 try simp only[HT.out]
 rw[Dk.out];go_wp2_with fail
 go_loopw [20] (fun iv wr=>∃ (i:Nat) (X:List Nat),i<=p/\iv=.int .i64 i/\Hid (X.length=r)/\Hid (∀ d∈X,d<Ag)/\Hid (∀ k,i+q<=k->k<r->X[k]?=some 0)/\Hid (bv Ag X=bv Ag (la.take i)*bv Ag lb)/\Hid (Blk wr T (Fa X) 172)/\Hid (Below T w wr)/\Hid (wr.heap.size=T+1)) (fun iv _=>p-(intOf iv).toNat)
 case atStart =>
  refine⟨0,List.replicate r 0,Nat.zero_le _,rfl,Aa (by simp),Aa (fun d hd=>by rw[List.eq_of_mem_replicate hd];decide),Aa (fun k _ hk=>by simp[hk]),Aa (by rw[vY,List.take_zero,bv,Nat.zero_mul]),Bc,Bi,S1⟩
 case round =>
  obtain⟨i,X,hi,rfl,Co,Ia,sV,Mi,qi1,La,Pf⟩:=hrel;obtain⟨wo,rfl⟩:∃ wo:World,wo=wr:=⟨_,rfl⟩
  by_cases Aj:i<p
  ·obtain⟨x,hx⟩:∃ x,la[i]?=some x:=⟨_,Ac (by rw[HP.out];exact Aj)⟩
   obtain⟨ub,uo,rfl,tF,G9,Ib⟩:=Gm.out i x hx;have e0:wo.cell? ⟨ub,uo+i,none⟩=some (.int .u32 (x:Int)):=(La.out.cell (p:=⟨ub,uo+i,none⟩) (show ub<T by omega)).trans G9;have HX:=Aa hx;clear G9 hx
   go_upto_region 6 with fail
   go_wp2_with fail
   go_loopw [8,27] (fun cv jv wr=>∃ (j c:Nat) (Y:List Nat),j<=q/\jv=.int .i64 j/\cv=.int .u64 c/\c<Ag/\Hid (Y.length=r)/\Hid (∀ d∈Y,d<Ag)/\Hid (∀ k,i+q<=k->k<r->Y[k]?=some 0)/\Hid (bv Ag Y+Ag^(i+j)*c=bv Ag (la.take i)*bv Ag lb+Ag^i*(x*bv Ag (lb.take j)))/\Hid (Blk wr T (Fa Y) 172)/\Hid (Below T w wr)/\Hid (wr.heap.size=T+1)) (fun _ jv _=>q-(intOf jv).toNat)
   case atStart=>exact⟨0,0,X,Nat.zero_le _,rfl,rfl,by decide,Co,Ia,sV,Aa (by rw[List.take_zero,bv];simp[Mi.out]),qi1,La,Pf⟩
   case round =>
    obtain⟨j,c,Y,hj,rfl,rfl,Zs,Mt,F7,qki,rB,mR,qk2,lO⟩:=hrel;obtain⟨wq,rfl⟩:∃ wq:World,wq=wr:=⟨_,rfl⟩;clear Co Ia sV Mi qi1 La Pf e0
    by_cases qr9:j<q
    ·obtain⟨y,hy⟩:∃ y,lb[j]?=some y:=⟨_,Ac (by rw[HQ.out];exact qr9)⟩
     obtain⟨vb,vo,rfl,eK,Rz,Ps⟩:=Oe.out j y hy;have e0:wq.cell? ⟨vb,vo+j,none⟩=some (.int .u32 (y:Int)):=(qk2.out.cell (p:=⟨vb,vo+j,none⟩) (show vb<T by omega)).trans Rz;obtain⟨k,hk⟩:=Ae (i+j)
     have Jk:(i:Int)+(j:Int)=(k:Int):=by omega
     have A8:k<r:=by have := HR.out;omega
     obtain⟨old,ho⟩:∃ old,Y[k]?=some old:=⟨_,Ac (by rw[Mt.out];exact A8)⟩;have qwv:=F7.out old (List.mem_of_getElem? ho);have e1:wq.cell? ⟨T,k,none⟩=some (.int .u32 (old:Int)):=mR.out.at (rG ho);have f1:wq.frozen? ⟨T,k,none⟩=false:=mR.out.free k;obtain⟨Wg,Nw⟩:=zmz Ib Ps qwv Zs;obtain⟨P,hP⟩:=Ae (x*y)
     have jao:(x:Int)*(y:Int)=(P:Int):=by rw[<- hP];simp
     rw[hP]at Wg Nw;obtain⟨s1,Cp⟩:=Ae (P+old)
     have zhb:(P:Int)+(old:Int)=(s1:Int):=by omega
     obtain⟨s,hs⟩:=Ae (s1+c)
     have P0:(s1:Int)+(c:Int)=(s:Int):=by omega
     rw[Cp,hs]at Nw;obtain⟨d,hd⟩:=Ae (s%Ag);obtain⟨g,hg⟩:=Ae (s/Ag);rw[hg]at Nw;have HY:=Aa hy;have HO:=Aa ho;have Ko:=Aa hP;have Oq:=Aa Cp;have HS:=Aa hs;have HD:=Aa hd;have HG:=Aa hg;have Zo:=Aa hk;unfold Ag at Ib Ps qwv Zs Nw hd hg;have quz:IntKind.u64.wrap (P:Int)=P:=Cg (by omega);have Kw:IntKind.u64.wrap (s1:Int)=s1:=Cg (by omega);have Gs:IntKind.u64.wrap (s:Int)=s:=Cg (by omega)
     have iH:IntKind.u32.wrap (s:Int)=(d:Int):=by simp[IntKind.wrap,IntKind.bits,IntKind.signed];omega
     have jb4:(s:Int)/4294967296=(g:Int):=by omega
     have qD:IntKind.u64.wrap (x:Int)=x:=Cg (by omega);have jK:IntKind.u64.wrap (y:Int)=y:=Cg (by omega);have ja2:IntKind.u64.wrap (old:Int)=old:=Cg (by omega);have M3:IntKind.i64.wrap (k:Int)=k:=Su (by omega) (by omega);clear Rz hy hk ho hP Cp hs hd hg
     have Dz:Blk (wq.setCell ⟨T,k,none⟩ (.int .u32 (d:Int))) T (Fa (Y.set k d)) 172:=by rw[<- qbb];exact mR.out.set _
     have Bw:=Aa Dz;have Bz:=Aa (qk2.out.setCell (p:=⟨T,k,none⟩) (Ab _) (.int .u32 (d:Int)));have Si:Hid ((wq.setCell ⟨T,k,none⟩ (.int .u32 (d:Int))).heap.size=T+1):=Aa (by simp[World.setCell];exact lO.out)
     have Yb:Hid (bv Ag (Y.set k d)+Ag^(i+(j+1))*g=bv Ag (la.take i)*bv Ag lb+Ag^i*(x*bv Ag (lb.take (j+1)))):=Aa (by
      have h0:=rB.out;rw[Zo.out]at h0;have := zia (x:=x) (y:=y) (s:=s) HO.out h0 (by rw[Ko.out,Oq.out,HS.out]);rw[HD.out,HG.out]at this;rw[show i+(j+1)=k+1 by have := Zo.out;omega,this,Vd HY.out,<- Zo.out,Nat.pow_add,Nat.mul_add x,Nat.mul_add,Nat.add_assoc]
      congr 2
      rw[Nat.mul_assoc,Nat.mul_left_comm x])
     clear Dz;go_wp2_with fail
     exact⟨⟨j+1,g,Y.set k d,by omega,by go_num,rfl,Nw,Aa (by rw[List.length_set];exact Mt.out),Aa (Un F7.out (by rw[<- HD.out];exact Nat.mod_lt _ (by decide))),Aa (fun k2 h1 h2=>by rw[List.getElem?_set_ne (by have := Zo.out;omega)];exact qki.out k2 h1 h2),Yb,Bw,Bz,Si⟩,by simp[intOf];omega⟩
    ·obtain rfl:q=j:=by omega
     obtain⟨k,hk⟩:=Ae (i+q)
     have Jk:(i:Int)+(q:Int)=(k:Int):=by omega
     have A8:k<r:=by have := HR.out;omega
     have ho:=qki.out k (by omega) A8;have e1:wq.cell? ⟨T,k,none⟩=some (.int .u32 ((0:Nat):Int)):=mR.out.at (rG ho);have f1:wq.frozen? ⟨T,k,none⟩=false:=mR.out.free k;have Ii:c<4294967296:=Zs;have U8:IntKind.u32.wrap (c:Int)=c:=Ze Ii;have M3:IntKind.i64.wrap (k:Int)=k:=Su (by omega) (by omega)
     have Dz:Blk (wq.setCell ⟨T,k,none⟩ (.int .u32 (c:Int))) T (Fa (Y.set k c)) 172:=by rw[<- qbb];exact mR.out.set _
     have Bw:=Aa Dz;have Bz:=Aa (qk2.out.setCell (p:=⟨T,k,none⟩) (Ab _) (.int .u32 (c:Int)));have Si:Hid ((wq.setCell ⟨T,k,none⟩ (.int .u32 (c:Int))).heap.size=T+1):=Aa (by simp[World.setCell];exact lO.out)
     have Yb:Hid (bv Ag (Y.set k c)=bv Ag (la.take (i+1))*bv Ag lb):=Aa (by
      have h0:=rB.out;have h1:=zY (b:=Ag) (y:=c) ho;rw[Nat.mul_zero,Nat.add_zero]at h1;rw[hk,List.take_of_length_le (l:=lb) (by rw[HQ.out];exact Ab _)]at h0
      rw[h1,h0,Vd HX.out,Nat.add_mul,Nat.mul_assoc])
     have Zo:=Aa hk;clear Dz ho hk;go_wp2_with fail
     exact⟨⟨i+1,Y.set k c,by omega,by go_num,Aa (by rw[List.length_set];exact Mt.out),Aa (Un F7.out Zs),Aa (fun k2 h1 h2=>by rw[List.getElem?_set_ne (by have := Zo.out;omega)];exact qki.out k2 (by omega) h2),Yb,Bw,Bz,Si⟩,by simp[intOf];omega⟩
  ·obtain rfl:p=i:=by omega
   have Ki:=qea (K:=wo.heap.size) qi1.out (by rw[Pf.out];omega) (by rw[Co.out];unfold maxLen;omega) Ia.out;have ht:=Yr wo.heap.size _ X wo Ki;rw[Co.out,Mi.out,List.take_of_length_le (by rw[HP.out];exact Ab _)]at ht;have K9:=Aa ht;clear Ki ht;go_wp2_with fail
   refine K9.out.mono ?_;clear K9;rintro e w9 ⟨a9,n9,c9,k9,he,rfl,Fw,rfl⟩;simp only[Value.slice.injEq]at he;obtain⟨rfl,rfl,rfl⟩:=he;have Js:=Aa Fw;clear Fw;go_wp2_with fail
   go_ret
   exact⟨_,rfl,Js.out,La.out,Bj.at (Ab _)⟩
theorem qrz {n:Nat} (h:n<4294967296):n/2147483648=if n.testBit 31 then 1 else 0:=by
 rw[Nat.testBit_eq_decide_div_mod_eq]
 have h1:n/2^31<2:=by omega
 have h2:n/2^31%2=n/2^31:=Nat.mod_eq_of_lt h1;rw[h2]
 show n/2^31=_
 by_cases h3:n/2^31=1
 ·rw[h3];rfl
 ·rw[if_neg (by simpa using h3)];omega
theorem qf5 {n:Nat} (h:n<4294967296):n.testBit 31=decide (2147483648<=n):=by
 have h1:=qrz h
 by_cases h2:n.testBit 31=true
 ·rw[if_pos h2]at h1
  rw[h2];symm;exact decide_eq_true (by omega)
 ·rw[if_neg h2]at h1
  rw[Bool.not_eq_true]at h2;rw[h2];symm;exact decide_eq_false (by omega)
theorem zru {x y c d:Nat} (hx:x<4294967296) (hy:y<4294967296) (hc:c<=1) (hd:d=(x+4294967296-y-c)%4294967296) :
  (((4294967295 ^^^ x) &&& y) ||| ((4294967295 ^^^ (x ^^^ y)) &&& d))/2147483648=if x<y+c then 1 else 0:=by
 have Lj:d<4294967296:=by omega
 have hn:(((4294967295 ^^^ x) &&& y) ||| ((4294967295 ^^^ (x ^^^ y)) &&& d))<4294967296:=Nat.or_lt_two_pow (n:=32) (Nat.and_lt_two_pow _ hy) (Nat.and_lt_two_pow _ Lj);rw[qrz hn]
 have zm3:(4294967295:Nat).testBit 31=true:=by decide
 simp only[Nat.testBit_or,Nat.testBit_and,Nat.testBit_xor,zm3,qf5 hx,qf5 hy,qf5 Lj]
 by_cases h1:2147483648<=x<;>by_cases h2:2147483648<=y<;>by_cases h3:2147483648<=d<;>simp[h1,h2,h3]<;>omega
theorem j7 (x y c:Nat) (hx:x<Ag) (hy:y<Ag) (hc:c<=1) (w:World) :
  Calls Tryz.prog 161 #[.int .u32 x,.int .u32 y,.int .u32 c] w fun e w'=>∃ d b:Nat,e=.returned (.tuple #[.int .u32 d,.int .u32 b])/\d<Ag/\b<=1/\d+y+c=x+Ag*b/\w=w':=by
 unfold Ag at *;obtain⟨d,hd⟩:=Ae ((x+4294967296-y-c)%4294967296)
 have Wz:((x:Int)-(y:Int)-(c:Int))%4294967296=(d:Int):=by omega
 obtain⟨nx,Zt⟩:∃ n,4294967295 ^^^ x=n:=⟨_,rfl⟩;obtain⟨xy,qbm⟩:∃ n,x ^^^ y=n:=⟨_,rfl⟩;obtain⟨nxy,wN⟩:∃ n,4294967295 ^^^ xy=n:=⟨_,rfl⟩;obtain⟨a1,Z1⟩:∃ n,nx &&& y=n:=⟨_,rfl⟩;obtain⟨a2,P4⟩:∃ n,nxy &&& d=n:=⟨_,rfl⟩
 obtain⟨o,ho⟩:∃ n,a1 ||| a2=n:=⟨_,rfl⟩
 have lxy:xy<4294967296:=by rw[<- qbm];exact Nat.xor_lt_two_pow (n:=32) hx hy
 have lnx:nx<4294967296:=by rw[<- Zt];exact Nat.xor_lt_two_pow (n:=32) (by decide) hx
 have lnxy:nxy<4294967296:=by rw[<- wN];exact Nat.xor_lt_two_pow (n:=32) (by decide) lxy
 have ld:d<4294967296:=by omega
 have la1:a1<4294967296:=by rw[<- Z1];exact Nat.and_lt_two_pow (n:=32) _ hy
 have la2:a2<4294967296:=by rw[<- P4];exact Nat.and_lt_two_pow (n:=32) _ ld
 have Jj:=zru hx hy hc hd.symm;rw[Zt,qbm,wN,Z1,P4,ho]at Jj;obtain⟨b,hb⟩:=Ae ((if x<y+c then 1 else 0:Nat));rw[hb]at Jj
 have jby:(o:Int)/2147483648=(b:Int):=by omega
 have Gj:d+y+c=x+4294967296*b/\b<=1:=by
  rw[<- hb]
  split<;>omega
 have k1:bits BinOp.xor IntKind.u32 IntKind.u32.max (x:Int)=(nx:Int):=by rw[<- Zt];exact u32_xor_nat 4294967295 x (by decide) hx
 have k2:bits BinOp.and IntKind.u32 (nx:Int) (y:Int)=(a1:Int):=by rw[<- Z1];exact u32_and_nat nx y lnx hy
 have k3:bits BinOp.xor IntKind.u32 (x:Int) (y:Int)=(xy:Int):=by rw[<- qbm];exact u32_xor_nat x y hx hy
 have k4:bits BinOp.xor IntKind.u32 IntKind.u32.max (xy:Int)=(nxy:Int):=by rw[<- wN];exact u32_xor_nat 4294967295 xy (by decide) lxy
 have k5:bits BinOp.and IntKind.u32 (nxy:Int) (d:Int)=(a2:Int):=by rw[<- P4];exact u32_and_nat nxy d lnxy ld
 have k6:bits BinOp.or IntKind.u32 (a1:Int) (a2:Int)=(o:Int):=by rw[<- ho];exact u32_or_nat a1 a2 la1 la2
 have HF:=Aa Gj;have HD:=Aa ld;clear hd Zt qbm wN Z1 P4 ho Jj hb Gj lxy lnx lnxy la1 la2 ld;go_enter Tryz.func161,Tryz.ntmps161
 go_wp2_with fail
 all_goals go_ret2
 all_goals exact⟨d,b,rfl,HD.out,HF.out.2,HF.out.1,rfl⟩
theorem zl6 (x y c:Nat) (hx:x<Ag) (hy:y<Ag) (hc:c<=1) (w:World) :
  Calls Tryz.prog 168 #[.int .u32 x,.int .u32 y,.int .u32 c] w fun e w'=>∃ d b:Nat,e=.returned (.tuple #[.int .u32 d,.int .u32 b])/\d<Ag/\b<=1/\d+Ag*b=x+y+c/\w=w':=by
 unfold Ag at *;obtain⟨s1,Cp⟩:∃ s,x+y=s:=⟨_,rfl⟩;obtain⟨s,hs⟩:=Ae (s1+c)
 have zhb:(x:Int)+(y:Int)=(s1:Int):=by omega
 have P0:(s1:Int)+(c:Int)=(s:Int):=by omega
 obtain⟨d,hd⟩:=Ae (s%4294967296);obtain⟨b,hb⟩:=Ae (s/4294967296)
 have iH:IntKind.u32.wrap (s:Int)=(d:Int):=by simp[IntKind.wrap,IntKind.bits,IntKind.signed];omega
 have zzj:(s:Int)%4294967296=(d:Int):=by omega
 have Ip:(s:Int)/4294967296=(b:Int):=by omega
 have jbf:IntKind.u32.wrap (b:Int)=(b:Int):=Ze (by omega);have HF:=Aa (show d<4294967296/\b<=1/\d+4294967296*b=x+y+c by omega)
 have l1:s1<18446744073709551616:=by omega
 have l2:s<18446744073709551616:=by omega
 clear Cp hs hd hb;go_enter Tryz.func168,Tryz.ntmps168
 go_wp2_with fail
 all_goals go_ret2
 all_goals exact⟨d,b,rfl,HF.out.1,HF.out.2.1,HF.out.2.2,rfl⟩
theorem zjf (h l d:Nat) (hh:h<d) (hl:l<Ag) (hd:d<Ag) (w:World) :
  Calls Tryz.prog 166 #[.int .u32 h,.int .u32 l,.int .u32 d] w fun e w'=>e=.returned (.tuple #[.int .u32 ((h*Ag+l)/d:Nat),.int .u32 ((h*Ag+l)%d:Nat)])/\∃ k,w'=w.drewN k:=by
 unfold Ag at *;obtain⟨q,hq⟩:=Ae ((h*4294967296+l)/d);obtain⟨r,hr⟩:=Ae ((h*4294967296+l)%d);obtain⟨n,hn⟩:=Ae (h*4294967296+l);rw[hn]at hq hr;rw[hn,hq,hr]
 have jbc:n<18446744073709551616:=by omega
 have qa0:q<4294967296:=by
  rw[<- hq];refine Nat.div_lt_of_lt_mul ?_
  have:(h+1)*4294967296<=d*4294967296:=Nat.mul_le_mul_right _ hh
  omega
 have yX:r<4294967296:=by have := Nat.mod_lt n (show 0<d by omega);omega
 obtain⟨m,hm⟩:=Ae (h*4294967296)
 have D7:(h:Int)*4294967296=(m:Int):=by omega
 have lN:bits BinOp.or IntKind.u64 (m:Int) (l:Int)=(n:Int):=by
  rw[u64_or_nat m l (by omega) (by omega)];have := Nat.two_pow_add_eq_or_of_lt (i:=32) hl h
  have e:m=2^32*h:=by omega
  rw[e,<- this];omega
 have jQ:(n:Int).tdiv (d:Int)=(q:Int):=by rw[Int.tdiv_eq_ediv_of_nonneg (by omega),<- hq];simp
 have mT:(n:Int).tmod (d:Int)=(r:Int):=by rw[Int.tmod_eq_emod_of_nonneg (by omega),<- hr];simp
 have qqn:(n:Int)/(d:Int)=(q:Int):=by rw[<- hq];simp
 have qyr:(n:Int)%(d:Int)=(r:Int):=by rw[<- hr];simp
 have Gp:((d:Int) != 0)=true:=by simp;omega
 have Gr:((d:Int)==0)=false:=by simp;omega
 have ja9:decide ((d:Int)<=(h:Int))=false:=decide_eq_false (by omega);have Kw:IntKind.u64.wrap (h:Int)=h:=Cg (by omega);have Gs:IntKind.u64.wrap (l:Int)=l:=Cg (by omega);have gV:IntKind.u64.wrap (d:Int)=d:=Cg (by omega);have xZ:IntKind.u64.wrap (m:Int)=m:=Cg (by omega);have eR:IntKind.u32.wrap (q:Int)=q:=Ze qa0;have u6:IntKind.u32.wrap (r:Int)=r:=Ze yX;have zof:IntKind.u64.wrap (q:Int)=q:=Cg (by omega);have qst:IntKind.u64.wrap (r:Int)=r:=Cg (by omega)
 have jbu:¬ ((d:Int)=0):=by omega
 clear hq hr hn hm;go_enter Tryz.func166,Tryz.ntmps166
 go_upto_region 4 with fail
 go_quiet (fail)
 go_wp2_with fail
 go_ret2
 exact⟨rfl,_,rfl⟩
def Ed (w:World) (T:Nat) (X:List Nat):Prop:=∃ cs,Blk w T cs 172/\X.length<=cs.size/\∀ i d:Nat,X[i]?=some d->cs[i]?=some (.int .u32 (d:Int))
section
variable {w w':World} {T:Nat} {X:List Nat}
theorem Ed.lt (h:Ed w T X):T<w.heap.size:=by obtain⟨cs,h1,_⟩:=h;exact h1.lt
theorem Ed.at (h:Ed w T X) {i d:Nat} (hd:X[i]?=some d):w.cell? ⟨T,i,none⟩=some (.int .u32 (d:Int)):=by obtain⟨cs,h1,h2,h3⟩:=h;exact h1.at (h3 i d hd)
theorem Ed.free (h:Ed w T X) (i:Nat):w.frozen? ⟨T,i,none⟩=false:=by obtain⟨cs,h1,h2,h3⟩:=h;exact h1.free i
theorem Ed.below {B:Nat} (h:Ed w T X) (hb:Below B w w') (hT:T<B):Ed w' T X:=by obtain⟨cs,h1,h2⟩:=h;exact⟨cs,h1.below hb hT,h2⟩
theorem Ed.set (h:Ed w T X) (i d:Nat):Ed (w.setCell ⟨T,i,none⟩ (.int .u32 (d:Int))) T (X.set i d):=by
 obtain⟨cs,h1,h2,h3⟩:=h;refine⟨_,h1.set _,by simpa using h2,fun j e he=>?_⟩
 by_cases Zi:i=j
 ·subst Zi
  have hi:=(List.getElem?_eq_some_iff.1 he).1;rw[List.length_set]at hi;rw[List.getElem?_set_self hi]at he;cases he
  rw[Array.getElem?_setIfInBounds_self_of_lt (by omega)]
 ·rw[List.getElem?_set_ne Zi]at he
  rw[Array.getElem?_setIfInBounds_ne Zi];exact h3 j e he
theorem Ed.ws {K c:Nat} (h:Ed w T X) (hK:T<K) (hc:X.length<=c) (hm:c<=maxLen) (Aj:∀ d∈X,d<Ag):Ws K w (.slice (some ⟨T,0,none⟩) X.length c) X :=
 Ws.mk' hc hm hK (fun i d hd=>by rw[Nat.zero_add];exact h.at hd) Aj
theorem mF (h:Blk w T (Fa X) 172):Ed w T X:=⟨_,h,by simp[Fa],fun i d hd=>rG hd⟩
end
theorem zuh {w w':World} {ops:Array Oper} {rest:List Oper} {o:Oper} {a:Act} {Q:Exit->Act->World->Prop} (Gy:o.guard=none) (s x:Operand) (t:TypeId)
  (ho:o.op=.call { callee:=.builtin .append,args:=#[s,x],argTypes:=#[t,t] }) (nD:o.type=t) {v u r:Value} (hs:a.eval s=v) (hx:a.eval x=u)
  (hr:(Builtin.append_ #[t,t] t #[v,u]).run Tryz.prog w=.ok r w') (h:wpList Tryz.prog ops Q rest (a.put o.dst r) w'):wpList Tryz.prog ops Q (o::rest) a w:=by
 refine wpList_plain Gy fun K' Qa=>?_
 unfold Oper.wp;simp[execOp,ho,resolve,invoke,builtin,hs,hx,nD,hr,Result.andThen];exact Qa _ _ h
structure qlb (B:Nat) (w':World) (l:List Nat) (a:Option Addr) (c:Nat):Prop where
 len:l.length<=c
 cap:c<=maxLen
 nil:a=none->c=0
 new:Bj B (.slice a l.length c)
 row:l≠[]->∃ T,a=some ⟨T,0,none⟩/\B<=T/\Ed w' T l
theorem qh0 (w:World) (a:Option Addr) (n c:Nat):(binOp .eql 160 (.slice a n c) (.slice none 0 0)).run Tryz.prog w=.ok (.bool a.isNone) w:=Lib.run_eql_slice_nil w _ _ a n c 0 0 Tryz.underlying160
theorem qnz (K:Nat) (v:Value) (l:List Nat) (w:World) (h:Ws K w v l) (hK:K<=w.heap.size) (hl:l.length<=2^30) :
  Calls Tryz.prog 155 #[v] w fun e w'=>∃ a c,e=.returned (.slice a l.length c)/\Below w.heap.size w w'/\qlb w.heap.size w' l a c:=by
 obtain⟨a,c,rfl,Uy,Fl⟩:=h.form;unfold maxLen at Fl;obtain⟨i0,hi,Cz,Gb,Ft⟩:=info_parts Tryz.infoU32
 by_cases h0:l=[]
 ·subst h0
  simp only[List.length_nil]at Uy h ⊢
  cases a with
  | none =>
   obtain⟨_,_,_,_,_,hz,_⟩:=h.row;have he:=qh0 w none 0 0;go_enter Tryz.func155,Tryz.ntmps155
   go_wp2_with fail
   go_ret
   exact⟨none,0,rfl,Below.refl _ _,Ab _,by simp[maxLen],fun _=>rfl,Bj.nil _ _ _,fun e=>absurd rfl e⟩
  | some ad =>
   have T7:=run_append_nothing (P:=Tryz.prog) (w.alloc (.cells #[] 172)) 160 160 160 172 i0 Tryz.underlying160 hi (some ⟨w.heap.size,0,none⟩) 0 0 (Ab _) (.slice (some ad) 0 c)
    (Src.ofSlice _ Tryz.underlying160 ad 0 c [] (by simp) (fun j u hj=>by simp at hj) (fun u hu=>by simp at hu))
   have he:=qh0 w (some ad) 0 c;go_enter Tryz.func155,Tryz.ntmps155
   go_wp2_with fail
   go_ret
   exact⟨_,0,rfl,Af _ _,Ab _,by simp[maxLen],fun e=>(by cases e),Bj.at (Ab _),fun e=>absurd rfl e⟩
 ·have vV:0<l.length:=List.length_pos_iff.2 h0
  obtain⟨b,o,cap,he,_,_,Cj,Ba⟩:=h.at vV;simp only[Value.slice.injEq,true_and]at he;obtain⟨rfl,rfl⟩:=he;obtain⟨T,hT⟩:=Ae w.heap.size;rw[hT]at hK ⊢;obtain⟨W1,Ah⟩:∃ W,w.alloc (.cells #[] 172)=W:=⟨_,rfl⟩
  have b1:Below T w W1:=by rw[<- Ah,<- hT];exact Af _ _
  have s1:W1.heap.size=T+1:=by rw[<- Ah,<- hT];simp
  have wZ:Src Tryz.prog i0.size 160 (.slice (some ⟨b,o,none⟩) l.length c) l.length (l.map fun n:Nat=>(.int .u32 (n:Int):Value)) W1:=by
   refine Src.ofSlice W1 Tryz.underlying160 ⟨b,o,none⟩ l.length c _ (by rw[List.length_map,Gb,Nat.mul_one]) (fun j u hj=>?_) (fun u hu=>?_)
   ·rw[List.getElem?_map]at hj
    obtain⟨d,hd,rfl⟩:=Option.map_eq_some_iff.1 hj;have := (b1.cell (p:=⟨b,o+j,none⟩) (show b<T by omega)).trans (Ba j d hd)
    by_cases Jb:j=0
    ·subst Jb;simpa [Addr.add] using this
    ·simpa [Addr.add,Jb] using this
   ·obtain⟨d,_,rfl⟩:=List.mem_map.1 hu
    rfl
  have T7:=run_append_grow_src (P:=Tryz.prog) W1 160 160 160 172 i0 (.int .u32 0) Tryz.underlying160 hi Cz (some ⟨T,0,none⟩) 0 0 [] (run_firstCells_some W1.drew i0.size 0 ⟨T,0,none⟩ 0 0 [] (by simp) (fun j u hj=>by simp at hj)) _ l.length _ wZ (by omega) (by omega)
   (by rw[Ft];exact growslice_fits (by omega) (by omega))
  obtain⟨W2,Ax⟩:∃ W,W1.drew.alloc (.cells (([]++l.map fun n:Nat=>(.int .u32 (n:Int):Value)).toArray++Builtin.zeroCells (Value.int .u32 0).cells (grownCap W1 (0+l.length) 0 172-(0+l.length))) 172)=W:=⟨_,rfl⟩;have Of:=grownCap_ge W1 (0+l.length) 0 172;have Bt:=grownCap_le_maxLen W1 (0+l.length) 0 172 (by unfold maxLen;omega);obtain⟨g,hg⟩:=Ae (grownCap W1 (0+l.length) 0 172);rw[hg]at Of Bt Ax T7
  have q2:Blk W2 (T+1) (([]++l.map fun n:Nat=>(.int .u32 (n:Int):Value)).toArray++Builtin.zeroCells (Value.int .u32 0).cells (g-(0+l.length))) 172:=by
   rw[<- Ax,<- s1];exact Blk.new W1.drew _ _
  have b2:Below T w W2:=by
   rw[<- Ax];exact(Er b1).alloc (show T<=W1.heap.size by omega) _
  rw[Ax,s1,Nat.zero_add]at T7
  have Cx:Ed W2 (T+1) l:=⟨_,q2,by simp,fun i d hd=>by
   have hi:=(List.getElem?_eq_some_iff.1 hd).1;rw[Array.getElem?_append_left (by simpa using hi)]
   simp[hd]⟩
  obtain⟨n,hn⟩:=Ae l.length;rw[hn]at T7 Of Uy ⊢;have Zf:=Aa Cx;have Bz:=Aa b2;have HN:=Aa hn;have HT:=Aa hT;have Dk:=Aa Ah;have P8:=Aa Of;have T6:=Aa Bt;clear wZ Ax q2 b2 Cx hn hT Ah b1 s1 Ba hg Of Bt h hi Cz Gb Ft;have he:=qh0 w (some ⟨b,o,none⟩) n c;go_enter Tryz.func155,Tryz.ntmps155
  rw[<- Dk.out,<- HT.out]at T7;go_wp2_with (at_builtin;refine zuh rfl (.tmp 5) (.tmp 6) 160 rfl rfl rfl rfl T7 ?_)
  go_ret
  exact⟨_,g,rfl,Bz.out,by have := P8.out;have := HN.out;omega,T6.out,fun e=>(by cases e),Bj.at (by have := HT.out;omega),fun _=>⟨T+1,by rw[<- HT.out],by omega,Zf.out⟩⟩
theorem Yg {l:List Nat} {k:Nat} (ht:Hr l) (h:bv Ag l<Ag^k):l.length<=k:=by
 by_cases h0:l=[]
 ·rw[h0];exact Nat.zero_le _
 ·have h1:=kF (b:=Ag) ht h0
  have h2:=Nat.lt_of_le_of_lt h1 h;have h3:=(Nat.pow_lt_pow_iff_right (a:=Ag) (by decide)).1 h2;omega
theorem qdu {l r:List Nat} (hl:∀ d∈l,d<Ag) (tr:Hr r) (h:bv Ag r<=bv Ag l):r.length<=l.length:=by
 rcases Nat.lt_or_ge l.length r.length with h1 | h1
 ·have := oN (b:=Ag) (by decide) hl tr h1
  omega
 ·exact h1
theorem uT {l:List Nat} {i x:Nat} (hi:i<l.length):(l.set i x).take (i+1)=l.take i++[x]:=by
 rw[List.take_add_one,List.getElem?_set_self hi,List.take_set_of_le (Ab i)];rfl
theorem Wk {l:List Nat} {i:Nat}:bv Ag (l.take (i+1))=bv Ag (l.take i)+Ag^i*(l[i]?.getD 0):=by
 cases h:l[i]? with
 | some x=>exact Vd h
 | none =>
  have hl:l.length<=i:=List.getElem?_eq_none_iff.1 h;rw[List.take_of_length_le (by omega),List.take_of_length_le hl];simp
theorem qpw (K:Nat) (u v:Value) (m n:Nat) (w:World) (hu:Bn K w u m) (hv:Bn K w v n) (hK:K<=w.heap.size) (Bt:n<=m) (Qd:m<Ag^1073741824) :
  Calls Tryz.prog 145 #[u,v] w fun e w'=>∃ v',e=.returned v'/\Bn w'.heap.size w' v' (m-n)/\Below w.heap.size w w'/\Bj w.heap.size v':=by
 obtain⟨la,Bh,tla,rfl⟩:=hu;obtain⟨lb,Dh,tlb,rfl⟩:=hv;have En:=Yg tla Qd;have wM:=qdu Bh.lt tlb Bt;have Ba:=qnz K u la w Bh hK En;obtain⟨ua,uc,rfl,Ew,Ha⟩:=Bh.form;obtain⟨va,vc,rfl,Bu,Bs⟩:=Dh.form;unfold maxLen at Ha Bs;have Fx:=Dh.cells;obtain⟨p,hp⟩:=Ae la.length;obtain⟨q,hq⟩:=Ae lb.length;rw[hp]at Ew En wM Ba ⊢;rw[hq]at Bu wM ⊢;obtain⟨B,hB⟩:=Ae w.heap.size;rw[hB]at Ba hK ⊢;obtain⟨N,hN⟩:=Ae (bv Ag la-bv Ag lb);rw[hN];have HN:=Aa hN;have HP:=Aa hp;have HQ:=Aa hq;have Oe:=Aa Fx;have T6:=Aa Bt;have qd1:=Aa Bh.lt;have jbm:=Aa Dh.lt;have Hl:=Aa Ba;clear Bh Dh tla tlb Qd Ba hp hq Fx Bt hN;go_enter Tryz.func145,Tryz.ntmps145
 go_wp2_with fail
 refine Hl.out.mono ?_;clear Hl;rintro e w2 ⟨a,c,rfl,Ai,hc⟩;have Pj:=hc.len;have Fl:=hc.cap;rw[HP.out]at Pj;unfold maxLen at Fl;have HC:=Aa hc;have Bz:=Aa Ai;clear hc Ai
 by_cases aT:p=0
 ·subst aT
  have H8:q=0:=by omega
  subst H8;have e1:la=[]:=List.eq_nil_of_length_eq_zero HP.out
  have mL:N=0:=by rw[<- HN.out,e1];simp[bv]
  subst mL;have ht:=Yr w2.heap.size (.slice a 0 c) [] w2 (Ws.nil _ _ a c HC.out.cap HC.out.nil);have HT:=Aa ht;clear ht e1;go_wp2_with fail
  refine wp_loop_rounds 1 ?_;rw[rounds_succ];go_wp2_with fail
  refine HT.out.mono ?_;rintro e w9 ⟨a9,n9,c9,k9,he,rfl,Fw,rfl⟩;simp only[Value.slice.injEq]at he;obtain⟨rfl,rfl,rfl⟩:=he
  have On:Bj B (.slice a k9 c):=fun b o m c' e=>by
   simp only[Value.slice.injEq]at e;exact HC.out.new b o 0 c (by rw[HP.out,e.1])
  have Js:=Aa Fw;have Zj:=Aa On;clear Fw On HT;go_wp2_with fail
  go_ret
  exact⟨_,rfl,Js.out,Bz.out,Zj.out⟩
 ·obtain⟨T,rfl,zby,Cx⟩:=HC.out.row (fun e=>aT (by rw[<- HP.out,e];rfl))
  have Zf:=Aa Cx;clear Cx;go_wp2_with fail
  go_loopw [6,13] (fun cv iv wr=>∃ (i b:Nat) (X:List Nat),i<=p/\iv=.int .i64 i/\cv=.int .u32 b/\b<=1/\Hid (X.length=p)/\Hid (∀ d∈X,d<Ag)/\Hid (∀ k,i<=k->X[k]?=la[k]?)/\Hid (bv Ag (X.take i)+bv Ag (lb.take i)=bv Ag (la.take i)+Ag^i*b)/\Hid (Ed wr T X)/\Hid (Below B w wr)) (fun _ iv _=>p-(intOf iv).toNat)
  case atStart=>exact⟨0,0,la,Nat.zero_le _,rfl,rfl,by omega,HP,qd1,Aa (fun _ _=>rfl),Aa (by simp[bv]),Zf,Bz⟩
  case round =>
   obtain⟨i,b,X,hi,rfl,rfl,Bp,Co,Ia,qys,Mi,Lr,La⟩:=hrel;obtain⟨wo,rfl⟩:∃ wo:World,wo=wr:=⟨_,rfl⟩
   by_cases Aj:i<p
   ·obtain⟨x,hx⟩:∃ x,la[i]?=some x:=⟨_,Ac (by rw[HP.out];exact Aj)⟩
    have qxt:X[i]?=some x:=by rw[qys.out i (Ab _)];exact hx
    have Ib:=qd1.out x (List.mem_of_getElem? hx);have e0:wo.cell? ⟨T,i,none⟩=some (.int .u32 (x:Int)):=Lr.out.at qxt;have f0:wo.frozen? ⟨T,i,none⟩=false:=Lr.out.free i;have HX:=Aa hx;clear hx qxt
    have Ka:Hid (∀ (d b' y:Nat),lb[i]?.getD 0=y->d<Ag->d+y+b=x+Ag*b'->(X.set i d).length=p/\(∀ d'∈X.set i d,d'<Ag)/\(∀ k,i+1<=k->(X.set i d)[k]?=la[k]?)/\(bv Ag ((X.set i d).take (i+1))+bv Ag (lb.take (i+1))=bv Ag (la.take (i+1))+Ag^(i+1)*b')/\Ed (wo.setCell ⟨T,i,none⟩ (.int .u32 (d:Int))) T (X.set i d)/\Below B w (wo.setCell ⟨T,i,none⟩ (.int .u32 (d:Int)))):=Aa fun d b' y hy hd hs=>by
     refine⟨by rw[List.length_set];exact Co.out,Un Ia.out hd,fun k hk=>?_,?_,Lr.out.set i d,La.out.setCell (p:=⟨T,i,none⟩) zby _⟩
     ·rw[List.getElem?_set_ne (by omega)];exact qys.out k (by omega)
     ·rw[uT (by rw[Co.out];exact Aj),Vd HX.out,Wk,hy]
      exact qob (by rw[List.length_take,Co.out];omega) Mi.out hs
    by_cases Zl:i<q
    ·obtain⟨y,hy⟩:∃ y,lb[i]?=some y:=⟨_,Ac (by rw[HQ.out];exact Zl)⟩
     obtain⟨vb,vo,rfl,eK,Rz,Ps⟩:=Oe.out i y hy;have e1:wo.cell? ⟨vb,vo+i,none⟩=some (.int .u32 (y:Int)):=(La.out.cell (p:=⟨vb,vo+i,none⟩) (show vb<B by omega)).trans Rz;have hs:=j7 x y b Ib Ps Bp wo;have HS:=Aa hs;have HY:=Aa hy;clear hs Rz hy;go_wp2_with fail
     refine HS.out.mono ?_;clear HS;rintro e w3 ⟨d,b',rfl,hd,Gl,Je,rfl⟩;obtain⟨h1,h2,h3,h4,h5,h6⟩:=Ka.out d b' y (by rw[HY.out];rfl) hd Je;have H1:=Aa h1;have H2:=Aa h2;have H3:=Aa h3;have H4:=Aa h4;have H5:=Aa h5;have H6:=Aa h6;clear h1 h2 h3 h4 h5 h6 Je;go_wp2_with fail
     exact⟨⟨i+1,b',X.set i d,by omega,by go_num,rfl,Gl,H1,H2,H3,H4,H5,H6⟩,by simp[intOf];omega⟩
    ·have hs:=j7 x 0 b Ib (by decide) Bp wo
     have HS:=Aa hs
     have hn:lb[i]?.getD 0=0:=by rw[List.getElem?_eq_none (by rw[HQ.out];omega)];rfl
     have Q2:=Aa hn;clear hs hn;go_wp2_with fail
     refine HS.out.mono ?_;clear HS;rintro e w3 ⟨d,b',rfl,hd,Gl,Je,rfl⟩;obtain⟨h1,h2,h3,h4,h5,h6⟩:=Ka.out d b' 0 Q2.out hd Je;have H1:=Aa h1;have H2:=Aa h2;have H3:=Aa h3;have H4:=Aa h4;have H5:=Aa h5;have H6:=Aa h6;clear h1 h2 h3 h4 h5 h6 Je;go_wp2_with fail
     exact⟨⟨i+1,b',X.set i d,by omega,by go_num,rfl,Gl,H1,H2,H3,H4,H5,H6⟩,by simp[intOf];omega⟩
   ·obtain rfl:p=i:=by omega
    have L7:bv Ag X=N:=by
     have h0:=Mi.out;rw[List.take_of_length_le (by rw[Co.out];exact Ab _),List.take_of_length_le (by rw[HQ.out];exact wM),List.take_of_length_le (by rw[HP.out];exact Ab _)]at h0;have h1:=Nd X Ia.out;rw[Co.out]at h1;have h2:=T6.out
     have Ov:b=0:=by
      rcases Nat.eq_zero_or_pos b with h | h
      ·exact h
      ·obtain rfl:b=1:=by omega
       rw[Nat.mul_one]at h0;omega
     subst Ov;rw[<- HN.out];omega
    have Ki:=Lr.out.ws (K:=wo.heap.size) (c:=c) Lr.out.lt (by rw[Co.out];exact Pj) HC.out.cap Ia.out;have ht:=Yr wo.heap.size _ X wo Ki;rw[Co.out,L7]at ht;have HT:=Aa ht;clear Ki ht L7;go_wp2_with fail
    refine HT.out.mono ?_;clear HT;rintro e w9 ⟨a9,n9,c9,k9,he,rfl,Fw,rfl⟩;simp only[Value.slice.injEq]at he;obtain⟨rfl,rfl,rfl⟩:=he;have Js:=Aa Fw;clear Fw;go_wp2_with fail
    go_ret
    exact⟨_,rfl,Js.out,La.out,Bj.at zby⟩
end Go.Proofs.YtlldjmagbjjeoaaGreatDoor
