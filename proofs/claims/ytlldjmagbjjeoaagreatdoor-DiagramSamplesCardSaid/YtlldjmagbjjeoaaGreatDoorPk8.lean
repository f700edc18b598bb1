/- Contracts and plain laws, several texts in one (NW9, NShelf, NW10S). No conditions beyond those stated. -/
import Derived.Deep.CutBlock
import Derived.Deep.LoopGhost
import Derived.Shelf.Small.Bits
import Derived.Lib.ItoaNum
import Derived.Test.YtlldjmagbjjeoaaGreatDoorPk7
set_option maxRecDepth 100000
set_option maxHeartbeats 40000000
namespace Go.Proofs.YtlldjmagbjjeoaaGreatDoor
open Go.RowKit
set_option linter.unusedVariables false
theorem tM {w w' w'':World} {r:Option Nat} (h:w.grownBy w' r) (h':w'.grownBy w'' r):w.grownBy w'' r :=
 ⟨h'.os.trans h.os,h'.tape.trans h.tape,h'.output.trans h.output,Nat.le_trans h.size h'.size,fun k hk hr=>(h'.block k (Nat.lt_of_lt_of_le hk h.size) hr).trans (h.block k hk hr)⟩
theorem zup (T j n vb vo vc uc:Nat) (X V:List Nat) (w:World) (hX:Ed w T X) (mS:∀ d∈X,d<Ag) (Dp:2<=n) (hj:j+n<X.length) (cF:V.length=n) (sB:∀ d∈V,d<Ag)
  (qah:∀ i d:Nat,V[i]?=some d->w.cell? ⟨vb,vo+i,none⟩=some (.int .u32 (d:Int))) (At:vb≠T) (zyx:vb<w.heap.size) (A3:n<=2^31) (zy0:j<=2^31) (nH:∀ t,V[n-1]?=some t->2147483648<=t) (Aj:bv Ag (sg X j (n+1))<bv Ag V*Ag) :
  Calls Tryz.prog 159 #[.slice (some ⟨T,j,none⟩) (n+1) uc,.slice (some ⟨vb,vo,none⟩) n vc] w fun e w'=>∃ X',e=.returned (.int .u32 (bv Ag (sg X j (n+1))/bv Ag V:Nat))/\Ed w' T X'/\X'.length=X.length/\(∀ d∈X',d<Ag) ∧
   bv Ag (sg X' j (n+1))=bv Ag (sg X j (n+1))%bv Ag V/\(∀ i,i<j\/j+(n+1)<=i->X'[i]?=X[i]?)/\w.grownBy w' (some T):=by
 obtain⟨k,hn⟩:∃ k,k+2=n:=⟨n-2,by omega⟩
 have Zc:k+3=n+1:=by omega
 obtain⟨x2,Gi⟩:∃ x,X[j+k]?=some x:=⟨_,Ac (by omega)⟩;obtain⟨y,hy⟩:∃ x,X[j+(k+1)]?=some x:=⟨_,Ac (by omega)⟩;obtain⟨z,hz⟩:∃ x,X[j+(k+2)]?=some x:=⟨_,Ac (by omega)⟩;obtain⟨v2,Bs⟩:∃ x,V[k]?=some x:=⟨_,Ac (by omega)⟩;obtain⟨tp,rO⟩:∃ x,V[k+1]?=some x:=⟨_,Ac (by omega)⟩;have Ib:=mS x2 (List.mem_of_getElem? Gi);have Ps:=mS y (List.mem_of_getElem? hy);have uU:=mS z (List.mem_of_getElem? hz);have Xn:=sB v2 (List.mem_of_getElem? Bs);have N5:=sB tp (List.mem_of_getElem? rO);have zzd:=nH tp (by rw[show n-1=k+1 by omega];exact rO);have I4:=zky Gi hy hz;have nT:=zjb (cF.trans hn.symm) Bs rO;obtain⟨M,hM⟩:=Ae (Ag^k);obtain⟨Ur,qcy⟩:∃ r,bv Ag (sg X j k)=r:=⟨_,rfl⟩;obtain⟨Vr,qij⟩:∃ r,bv Ag (V.take k)=r:=⟨_,rfl⟩;obtain⟨hd,zcb⟩:∃ h,z*Ag+y=h:=⟨_,rfl⟩;rw[hM,qcy,zcb,Zc]at I4;rw[hM,qij]at nT
 have yV:Ur<M:=by
  have := Nd (sg X j k) (qeu mS);rw[mM (by omega),hM,qcy]at this;exact this
 have qjk:Vr<M:=by
  have := Nd (V.take k) (fun d hd=>sB d (List.mem_of_mem_take hd));rw[List.length_take,cF,show min k n=k by omega,hM,qij]at this;exact this
 obtain⟨U,hU⟩:=Ae (bv Ag (sg X j (n+1)));obtain⟨D,hD⟩:=Ae (bv Ag V);rw[hU]at I4 Aj ⊢;rw[hD]at nT Aj ⊢;have qvj:hd<=tp*Ag+Ag-1:=zxh (U:=0) (by decide) (by unfold Ag;omega) Ib yV Xn qjk (by rw[<- I4,<- nT];exact Aj);have Ol:=zsg (b:=Ag) (M:=M) (top:=tp) (v2:=v2) (Vr:=Vr) (head:=hd) (u2:=x2) (Ur:=Ur) (by omega) Ib yV;rw[<- I4,<- nT]at Ol
 have zyl:hd<18446744073709551616:=by unfold Ag at *;omega
 obtain⟨d0,Gp⟩:∃ q,hd/tp=q:=⟨_,rfl⟩;obtain⟨r0,Ok⟩:∃ r,hd%tp=r:=⟨_,rfl⟩;rw[Gp]at Ol;have qid:Dig U D hd tp d0 r0:=⟨by rw[<- Gp,<- Ok,Nat.mul_comm];exact Nat.div_add_mod hd tp,Ol⟩
 have zxv:r0<tp:=by rw[<- Ok];exact Nat.mod_lt _ (by omega)
 have qss:d0<=Ag+1:=by
  have h1:=qid.eq
  rcases Nat.lt_or_ge (Ag+1) d0 with h2 | h2
  ·have h3:(Ag+2)*tp<=d0*tp:=Nat.mul_le_mul_right _ h2
   rw[Nat.add_mul,Nat.mul_comm Ag tp]at h3;unfold Ag at *;omega
  ·exact h2
 have jQ:(hd:Int).tdiv (tp:Int)=(d0:Int):=by rw[Int.tdiv_eq_ediv_of_nonneg (by omega),<- Gp];simp
 have mT:(hd:Int).tmod (tp:Int)=(r0:Int):=by rw[Int.tmod_eq_emod_of_nonneg (by omega),<- Ok];simp
 have qqn:(hd:Int)/(tp:Int)=(d0:Int):=by rw[<- Gp];simp
 have qyr:(hd:Int)%(tp:Int)=(r0:Int):=by rw[<- Ok];simp
 obtain⟨zs,Vb⟩:∃ s,z*Ag=s:=⟨_,rfl⟩
 have jbw:(z:Int)*4294967296=(zs:Int):=by unfold Ag at Vb;omega
 have lN:bits BinOp.or IntKind.u64 (zs:Int) (y:Int)=(hd:Int):=by
  rw[u64_or_nat zs y (by unfold Ag at *;omega) (by unfold Ag at *;omega)];have := Nat.two_pow_add_eq_or_of_lt (i:=32) (show y<2^32 from Ps) z
  have e:zs=2^32*z:=by unfold Ag at Vb;omega
  rw[e,<- this];unfold Ag at *;omega
 have e1:w.cell? ⟨T,j+n,none⟩=some (.int .u32 (z:Int)):=by rw[<- hn];exact hX.at hz
 have e2:w.cell? ⟨T,j+(k+1),none⟩=some (.int .u32 (y:Int)):=hX.at hy;have e3:w.cell? ⟨T,j+k,none⟩=some (.int .u32 (x2:Int)):=hX.at Gi;have e4:=qah (k+1) tp rO;have e5:=qah k v2 Bs
 have zkv:(n:Int)-1=((k+1:Nat):Int):=by omega
 have zx4:(n:Int)-2=(k:Int):=by omega
 obtain⟨k1,Sg⟩:=Ae (k+1);rw[Sg]at zkv e2 e4
 have qfm:j+n<9223372036854775808:=by omega
 have zvx:IntKind.u64.wrap (z:Int)=z:=Cg (by unfold Ag at uU;omega);have ja0:IntKind.u64.wrap (zs:Int)=zs:=Cg (by unfold Ag at *;omega);have jK:IntKind.u64.wrap (y:Int)=y:=Cg (by unfold Ag at Ps;omega);have jbt:IntKind.u64.wrap (tp:Int)=tp:=Cg (by unfold Ag at N5;omega);have zz9:IntKind.i64.wrap (k1:Int)=k1:=Su (by omega) (by omega);have M3:IntKind.i64.wrap (k:Int)=k:=Su (by omega) (by omega)
 have Nv:¬ ((tp:Int)=0):=by omega
 have jax:((tp:Int)==0)=false:=by simp;omega
 have jbp:IntKind.u64.wrap (d0:Int)=d0:=Cg (by unfold Ag at qss;omega);have jbg:IntKind.u64.wrap (r0:Int)=r0:=Cg (by unfold Ag at N5;omega)
 have zzz:k1<n+1:=by omega
 have jb5:k1<n:=by omega
 have dR:k<n+1:=by omega
 have zgn:k<n:=by omega
 have HM:=Aa hM;have qjw:=Aa I4;have qlc:=Aa nT;have zla:=Aa yV;have kE:=Aa qjk;have HU:=Aa hU;have HD:=Aa hD;have zr6:=Aa qvj;have Tr:=Aa Aj;have HX:=Aa hX;have Co:=Aa mS;have HJ:=Aa hj;have Th:=Aa cF;have wX:=Aa sB;have qt9:=Aa qah;have HZ:Hid (X[j+n]?=some z):=Aa (by rw[<- hn];exact hz);have ziz:=Aa qid;have Rw:=Aa At;have qox:=Aa Ib;have qkv:=Aa Xn;have zcy:=Aa uU;have zlw:=Aa N5;have gM:=Aa e3;have qaq:=Aa e5;have bL:IntKind.u32.wrap (z:Int)=z:=Ze uU
 have zu7:r0<Ag:=by omega
 clear I4 nT hM yV qjk hU hD qvj Aj hX mS hj cF sB qah Gi hy hz Bs rO qcy qij zcb Ol Gp Ok qid nH Vb Sg hn Zc;go_enter Tryz.func159,Tryz.ntmps159
 go_upto_region 2 with fail
 go_quiet (fail)
 go_upto_region 4 with fail
 go_quiet (fail)
 go_upto_block 0 with fail
 go_cut [8]from 47 to 75 (fun dv wc=>∃ (d kk:Nat),dv=.int .u64 d/\Hid (vX U D d)/\Hid (wc=w.drewN kk))
 case first =>
  go_wp2_with fail
  go_loopw [8,9] (fun dv rv wr=>∃ (d r kk:Nat),dv=.int .u64 d/\rv=.int .u64 r/\r<Ag/\d<=Ag+1/\Hid (Dig U D hd tp d r)/\Hid (wr=w.drewN kk)) (fun dv _ _=>(intOf dv).toNat)
  case atStart=>exact⟨d0,r0,_,rfl,rfl,zu7,qss,ziz,Aa (Xc _ _ _)⟩
  case round =>
   obtain⟨d,r,kk,rfl,rfl,yX,m9,I0,fB⟩:=hrel;obtain⟨wo,rfl⟩:∃ wo:World,wo=wr:=⟨_,rfl⟩
   have sA:Hid (U<d*D->∀ nq:Nat,1<=d/\Dig U D hd tp (d-1) (r+tp)/\wo.drewN nq=w.drewN (kk+nq)):=Aa fun h nq=>by
    obtain⟨h1,h2⟩:=I0.out.down h;exact⟨h1,h2,by rw[fB.out];exact Xc _ _ _⟩
   have qd3:Hid (∀ d':Nat,Dig U D hd tp d' (r+tp)->Ag<=r+tp->vX U D d'):=Aa fun d' h hr=>by
    rw[qjw.out,qlc.out]at h ⊢;exact znv h (by omega) kE.out qkv.out zr6.out hr
   obtain⟨rt,Gt⟩:∃ x,r+tp=x:=⟨_,rfl⟩
   have jah:(r:Int)+(tp:Int)=(rt:Int):=by omega
   have ja3:IntKind.u64.wrap (rt:Int)=rt:=Cg (by have := zlw.out;unfold Ag at *;omega);rw[Gt]at sA qd3;have kO:=Aa Gt;clear Gt
   by_cases Dr:Ag<=d
   ·have Of:decide ((4294967296:Int)<=(d:Int))=true:=decide_eq_true (by unfold Ag at Dr;omega)
    have jS:U<d*D:=ze8 Tr.out Dr
    have Gr:1<=d:=by unfold Ag at Dr;omega
    obtain⟨e,he⟩:=Ae (d-1)
    have zon:(d:Int)-1=(e:Int):=by omega
    have zmp:IntKind.u64.wrap (e:Int)=e:=Cg (by unfold Ag at m9;omega);have HE:=Aa he;have sP:=Aa jS;clear jS he
    by_cases hrb:Ag<=rt
    ·have qlt:decide ((4294967296:Int)<=(rt:Int))=true:=decide_eq_true (by unfold Ag at hrb;omega)
     go_upto_region 5 with fail
     go_quiet (fail)
     go_wp2_with fail
     obtain⟨h1,h2,h3⟩:=sA.out sP.out nq;rw[HE.out]at h2;go_meet
     exact⟨e,_,rfl,Aa (qd3.out e h2 hrb),Aa h3⟩
    ·have qlt:decide ((4294967296:Int)<=(rt:Int))=false:=decide_eq_false (by unfold Ag at hrb;omega)
     go_upto_region 5 with fail
     go_quiet (fail)
     go_wp2_with fail
     obtain⟨h1,h2,h3⟩:=sA.out sP.out nq;rw[HE.out]at h2;exact⟨⟨e,rt,_,rfl,rfl,by omega,by omega,Aa h2,Aa h3⟩,by simp[intOf];omega⟩
   ·have Of:decide ((4294967296:Int)<=(d:Int))=false:=decide_eq_false (by unfold Ag at Dr;omega)
    obtain⟨P,hP⟩:=Ae (d*v2)
    have oU:(d:Int)*(v2:Int)=(P:Int):=by rw[<- hP];simp
    have zu8:P<18446744073709551616:=by
     rw[<- hP];have h1:d*v2<=4294967295*4294967295:=Nat.mul_le_mul (by unfold Ag at Dr;omega) (by have := qkv.out;unfold Ag at this;omega);omega
    obtain⟨rs,Ih⟩:∃ s,r*Ag=s:=⟨_,rfl⟩
    have jai:(r:Int)*4294967296=(rs:Int):=by unfold Ag at Ih;omega
    obtain⟨S,hS⟩:=Ae (r*Ag+x2)
    have zlb:bits BinOp.or IntKind.u64 (rs:Int) (x2:Int)=(S:Int):=by
     have h1:=qox.out;rw[u64_or_nat rs x2 (by unfold Ag at *;omega) (by unfold Ag at *;omega)];have := Nat.two_pow_add_eq_or_of_lt (i:=32) (show x2<2^32 from h1) r
     have e:rs=2^32*r:=by unfold Ag at Ih;omega
     rw[e,<- this];unfold Ag at *;omega
    have ja1:IntKind.u64.wrap (rs:Int)=rs:=Cg (by unfold Ag at *;omega);have quz:IntKind.u64.wrap (P:Int)=P:=Cg zu8;have zy8:IntKind.u64.wrap (x2:Int)=x2:=Cg (by have := qox.out;unfold Ag at this;omega);have ja7:IntKind.u64.wrap (v2:Int)=v2:=Cg (by have := qkv.out;unfold Ag at this;omega);have M3:=fB.out
    have e3:wo.cell? ⟨T,j+k,none⟩=some (.int .u32 (x2:Int)):=by rw[M3];exact gM.out
    have e5:wo.cell? ⟨vb,vo+k,none⟩=some (.int .u32 (v2:Int)):=by rw[M3];exact qaq.out
    have Ko:=Aa hP;have qa9:=Aa hS;clear hP Ih hS M3
    by_cases qc9:S<P
    ·have zfj:decide ((S:Int)<(P:Int))=true:=decide_eq_true (by omega)
     have jS:U<d*D:=by
      have := zj5 (b:=Ag) (M:=M) (top:=tp) (v2:=v2) (Vr:=Vr) (head:=hd) (u2:=x2) (Ur:=Ur) (d:=d) (rest:=r) zla.out I0.out.eq (by rw[qa9.out,Ko.out];exact qc9);rw[qjw.out,qlc.out];exact this
     have Gr:1<=d:=by
      rcases Nat.eq_zero_or_pos d with h | h
      ·rw[h,Nat.zero_mul]at jS;omega
      ·exact h
     obtain⟨e,he⟩:=Ae (d-1)
     have zon:(d:Int)-1=(e:Int):=by omega
     have zmp:IntKind.u64.wrap (e:Int)=e:=Cg (by unfold Ag at m9;omega);have HE:=Aa he;have sP:=Aa jS;clear jS he
     by_cases hrb:Ag<=rt
     ·have qlt:decide ((4294967296:Int)<=(rt:Int))=true:=decide_eq_true (by unfold Ag at hrb;omega)
      go_upto_region 5 with fail
      go_quiet (fail)
      go_wp2_with fail
      obtain⟨h1,h2,h3⟩:=sA.out sP.out nq;rw[HE.out]at h2;go_meet
      exact⟨e,_,rfl,Aa (qd3.out e h2 hrb),Aa h3⟩
     ·have qlt:decide ((4294967296:Int)<=(rt:Int))=false:=decide_eq_false (by unfold Ag at hrb;omega)
      go_upto_region 5 with fail
      go_quiet (fail)
      go_wp2_with fail
      obtain⟨h1,h2,h3⟩:=sA.out sP.out nq;rw[HE.out]at h2;exact⟨⟨e,rt,_,rfl,rfl,by omega,by omega,Aa h2,Aa h3⟩,by simp[intOf];omega⟩
    ·have zfj:decide ((S:Int)<(P:Int))=false:=decide_eq_false (by omega)
     have qP:vX U D d:=by
      have h:=I0.out;have h5:=qa9.out;have h6:=Ko.out;rw[qjw.out,qlc.out]at h ⊢;exact zac h (by omega) kE.out (by omega) (by omega)
     have nR:=Aa qP;clear qP
     go_upto_region 5 with fail
     go_quiet (fail)
     go_wp2_with fail
     go_meet
     exact⟨d,_,rfl,nR,Aa (by rw[fB.out];exact Xc _ _ _)⟩
 case rest =>
  obtain⟨d,kk,rfl,nR,fB⟩:=hcut;obtain⟨W2,Ax⟩:∃ W2,W2=wc:=⟨_,rfl⟩;rw[<- Ax]at fB ⊢;clear Ax;have M2:d<Ag:=nR.out.lt
  have Nb:w.grownBy W2 (some T):=by rw[fB.out];exact⟨rfl,rfl,rfl,Ab _,fun _ _ _=>rfl⟩
  have qou:Ed W2 T X:=by rw[fB.out];exact HX.out
  have gC:=Aa Nb;have zdo:=Aa qou;clear Nb qou e1 e2 e4;go_wp2_with fail
  go_loopw [10,11,78] (fun cv bb iv wr=>∃ (i c b:Nat) (Y:List Nat),i<=n/\cv=.int .u64 c/\bb=.int .u64 b/\iv=.int .i64 i/\c<Ag/\b<=1/\Hid (Y.length=X.length)/\Hid (∀ e∈Y,e<Ag)/\Hid (bv Ag (sg Y j i)+d*bv Ag (V.take i)=bv Ag (sg X j i)+Ag^i*(b+c))/\Hid (∀ e,e<j\/j+i<=e->Y[e]?=X[e]?)/\Hid (Ed wr T Y)/\Hid (w.grownBy wr (some T))) (fun _ _ iv _=>n-(intOf iv).toNat)
  case atStart=>exact⟨0,0,0,X,Nat.zero_le _,rfl,rfl,rfl,by decide,by omega,Aa rfl,Co,Aa (by simp[sg,bv]),Aa (fun _ _=>rfl),zdo,gC⟩
  case round =>
   obtain⟨i,c,b,Y,hi,rfl,rfl,rfl,Zs,Bp,Mt,F7,rB,uV,gJ,zE⟩:=hrel;obtain⟨wo,rfl⟩:∃ wo:World,wo=wr:=⟨_,rfl⟩
   by_cases Aj:i<n
   ·obtain⟨v,hv⟩:∃ x,V[i]?=some x:=⟨_,Ac (by rw[Th.out];exact Aj)⟩
    have Xn:=wX.out v (List.mem_of_getElem? hv);have e4:wo.cell? ⟨vb,vo+i,none⟩=some (.int .u32 (v:Int)):=zE.out.cell (qt9.out i v hv) (by simpa using Rw.out);obtain⟨x,hx⟩:∃ x,X[j+i]?=some x:=⟨_,Ac (by have := HJ.out;omega)⟩;have Ib:=Co.out x (List.mem_of_getElem? hx)
    have sH:Y[j+i]?=some x:=by rw[uV.out (j+i) (by omega)];exact hx
    have e1:wo.cell? ⟨T,j+i,none⟩=some (.int .u32 (x:Int)):=gJ.out.at sH;have f1:wo.frozen? ⟨T,j+i,none⟩=false:=gJ.out.free (j+i);obtain⟨qfp,Ox,nw,b',Ff,Gl,A2⟩:=ztj M2 Xn Zs Ib Bp;obtain⟨P,hP⟩:=Ae (d*v)
    have oU:(d:Int)*(v:Int)=(P:Int):=by rw[<- hP];simp
    rw[hP]at qfp Ox A2;obtain⟨S,hS⟩:=Ae (P+c)
    have zja:(P:Int)+(c:Int)=(S:Int):=by omega
    rw[hS]at qfp Ox A2;obtain⟨lo,Kx⟩:=Ae (S%Ag);obtain⟨cn,qof⟩:=Ae (S/Ag);rw[Kx]at A2;rw[qof]at Ox;obtain⟨F,hF⟩:=Ae (x+18446744073709551616*b'-lo-b)
    have zzv:lo<Ag:=by rw[<- Kx];exact Nat.mod_lt _ (by decide)
    have tV:b'=0\/b'=1:=by omega
    obtain⟨F1,N6⟩:=Ae ((x+18446744073709551616-lo)%18446744073709551616)
    have qwi:IntKind.u64.wrap ((x:Int)-(lo:Int))=(F1:Int):=by
     unfold Ag at *;simp[IntKind.wrap,IntKind.bits,IntKind.signed];omega
    have qvs:IntKind.u64.wrap ((F1:Int)-(b:Int))=(F:Int):=by
     unfold Ag at *;simp[IntKind.wrap,IntKind.bits,IntKind.signed]
     rcases tV with h | h<;>subst h<;>omega
    have Us:IntKind.u32.wrap (F:Int)=(nw:Int):=by
     unfold Ag at *;simp[IntKind.wrap,IntKind.bits,IntKind.signed]
     rcases tV with h | h<;>subst h<;>omega
    have qme:(F:Int)%4294967296=(nw:Int):=by
     unfold Ag at *
     rcases tV with h | h<;>subst h<;>omega
    have qj6:(F:Int)/9223372036854775808=(b':Int):=by
     unfold Ag at *
     rcases tV with h | h<;>subst h<;>omega
    have zyv:(S:Int)/4294967296=(cn:Int):=by unfold Ag at *;omega
    have He:IntKind.u32.wrap (S:Int)=(lo:Int):=by unfold Ag at *;simp[IntKind.wrap,IntKind.bits,IntKind.signed];omega
    have quz:IntKind.u64.wrap (P:Int)=P:=Cg (by omega);have jbn:IntKind.u64.wrap (S:Int)=S:=Cg (by omega);have zy3:IntKind.u64.wrap (v:Int)=v:=Cg (by unfold Ag at *;omega);have qD:IntKind.u64.wrap (x:Int)=x:=Cg (by unfold Ag at *;omega);have zzk:IntKind.u64.wrap (lo:Int)=lo:=Cg (by unfold Ag at *;omega)
    have qwo:bv Ag (sg (Y.set (j+i) nw) j (i+1))+d*bv Ag (V.take (i+1))=bv Ag (sg X j (i+1))+Ag^(i+1)*(b'+cn):=by
     have ze4:j+i<Y.length:=by rw[Mt.out];have := HJ.out;omega
     rw[zA ze4,Vd hv,jE hx,Nat.mul_add d,Nat.mul_left_comm d,hP];refine qob (y:=P) (c:=b+c) (mM (by omega)) rB.out ?_;unfold Ag at *;omega
    have zv7:=Aa qwo;have Kr:=Aa (gJ.out.set (j+i) nw);have Wu:Hid (w.grownBy (wo.setCell ⟨T,j+i,none⟩ (.int .u32 (nw:Int))) (some T)):=Aa (tM zE.out (Fm _ _ _ _));have Sh:Hid (∀ e,e<j\/j+(i+1)<=e->(Y.set (j+i) nw)[e]?=X[e]?):=Aa (fun e he=>by rw[List.getElem?_set_ne (by omega)];exact uV.out e (by omega));have Rb:Hid (∀ e∈Y.set (j+i) nw,e<Ag):=Aa (Un F7.out Ff);have M5:Hid ((Y.set (j+i) nw).length=X.length):=Aa (by rw[List.length_set];exact Mt.out);clear hv hx sH hP hS Kx qof hF N6 qwo A2 tV;go_wp2_with fail
    exact⟨⟨i+1,cn,b',Y.set (j+i) nw,by omega,rfl,rfl,by go_num,Ox,Gl,M5,Rb,zv7,Sh,Kr,Wu⟩,by simp[intOf];omega⟩
   ·obtain rfl:n=i:=by omega
    have qcw:=rB.out;rw[List.take_of_length_le (by rw[Th.out];exact Ab _),HD.out]at qcw
    have qif:bv Ag (sg X j n)+Ag^n*z=U:=by rw[<- HU.out];exact(jE HZ.out).symm
    have qfd:Y[j+n]?=some z:=by rw[uV.out (j+n) (by omega)];exact HZ.out
    have e1:wo.cell? ⟨T,j+n,none⟩=some (.int .u32 (z:Int)):=gJ.out.at qfd;have f1:wo.frozen? ⟨T,j+n,none⟩=false:=gJ.out.free (j+n);have Od:=zcy.out
    have qlf:bv Ag (sg Y j n)<Ag^n:=by
     have := Nd (sg Y j n) (qeu F7.out);rwa[mM (by rw[Mt.out];have := HJ.out;omega)]at this
    obtain⟨Bn',Uj⟩:∃ b,Ag^n=b:=⟨_,rfl⟩;rw[Uj]at qcw qif qlf;have qcj:=Aa qcw;have zap:=Aa qif;have zps:=Aa qlf;have Js:=Aa Uj;have jb3:=Aa qfd;have jbr:IntKind.u64.wrap (z:Int)=z:=Cg (by unfold Ag at *;omega);have iH:IntKind.u32.wrap (d:Int)=d:=Ze M2
    have qvk:j+n<Y.length:=by rw[Mt.out];exact HJ.out
    have qer:=Aa qvk;clear qcw qif qfd qlf Uj qvk hi Aj
    by_cases Of:c+b<=z
    ·obtain⟨F,hF⟩:=Ae (z-(c+b))
     have zq6:(z:Int)-(c:Int)=((z-c:Nat):Int):=by omega
     obtain⟨F1,N6⟩:=Ae (z-c);rw[N6]at zq6
     have zy7:(F1:Int)-(b:Int)=(F:Int):=by omega
     have zzx:IntKind.u64.wrap (F1:Int)=F1:=Cg (by unfold Ag at *;omega);have jav:IntKind.u64.wrap (F:Int)=F:=Cg (by unfold Ag at *;omega);have jat:IntKind.u32.wrap (F:Int)=F:=Ze (by unfold Ag at *;omega)
     have qme:(F:Int)%4294967296=(F:Int):=by unfold Ag at *;omega
     have qj6:(F:Int)/9223372036854775808=0:=by unfold Ag at *;omega
     have Gf:bv Ag (sg (Y.set (j+n) F) j (n+1))+d*D=U:=by
      rw[zA qer.out,A5,mM (by have := qer.out;omega),Js.out];have h1:=qcj.out;have h2:=zap.out
      have h3:Bn'*z=Bn'*(b+c)+Bn'*F:=by rw[<- Nat.mul_add];congr 1;omega
      omega
     have Hk:U/D=d/\U%D=bv Ag (sg (Y.set (j+n) F) j (n+1)):=by
      have Nm:0<D:=by
       rcases Nat.eq_zero_or_pos D with h | h
       ·have := nR.out.low;rw[h]at this;simp at this
       ·exact h
      have h1:=nR.out.low;rw[Nat.add_mul,Nat.one_mul]at h1;exact(Nat.div_mod_unique Nm).2 ⟨by rw[Nat.mul_comm D d];omega,by omega⟩
     have Ig:=Aa Hk;have Kr:=Aa (gJ.out.set (j+n) F);have Wu:Hid (w.grownBy (wo.setCell ⟨T,j+n,none⟩ (.int .u32 (F:Int))) (some T)):=Aa (tM zE.out (Fm _ _ _ _));have Sh:Hid (∀ e,e<j\/j+(n+1)<=e->(Y.set (j+n) F)[e]?=X[e]?):=Aa (fun e he=>by rw[List.getElem?_set_ne (by omega)];exact uV.out e (by omega));have Rb:Hid (∀ e∈Y.set (j+n) F,e<Ag):=Aa (Un F7.out (by omega));have M5:Hid ((Y.set (j+n) F).length=X.length):=Aa (by rw[List.length_set];exact Mt.out);clear hF N6 Gf Hk;go_wp2_with fail
     go_ret
     exact⟨Y.set (j+n) F,by rw[Ig.out.1];rfl,Kr.out,M5.out,Rb.out,Ig.out.2.symm,Sh.out,Wu.out⟩
    ·obtain⟨t,ht⟩:=Ae (Ag+z-(c+b))
     have zes:t<Ag:=by unfold Ag at *;omega
     obtain⟨F,hF⟩:=Ae (18446744073709551616+z-(c+b));obtain⟨F1,N6⟩:=Ae ((z+18446744073709551616-c)%18446744073709551616)
     have qwi:IntKind.u64.wrap ((z:Int)-(c:Int))=(F1:Int):=by
      unfold Ag at *;simp[IntKind.wrap,IntKind.bits,IntKind.signed];omega
     have qvs:IntKind.u64.wrap ((F1:Int)-(b:Int))=(F:Int):=by
      unfold Ag at *;simp[IntKind.wrap,IntKind.bits,IntKind.signed];omega
     have Us:IntKind.u32.wrap (F:Int)=(t:Int):=by
      unfold Ag at *;simp[IntKind.wrap,IntKind.bits,IntKind.signed];omega
     have qme:(F:Int)%4294967296=(t:Int):=by unfold Ag at *;omega
     have qj6:(F:Int)/9223372036854775808=1:=by unfold Ag at *;omega
     have qJ:=Aa ht;have Kr:=Aa (gJ.out.set (j+n) t);have Wu:Hid (w.grownBy (wo.setCell ⟨T,j+n,none⟩ (.int .u32 (t:Int))) (some T)):=Aa (tM zE.out (Fm _ _ _ _));have P8:=Aa Of;clear ht hF N6 Of
     go_upto_region 24 with fail
     obtain⟨W3,Cn⟩:∃ W,wo.setCell ⟨T,j+n,none⟩ (.int .u32 (t:Int))=W:=⟨_,rfl⟩;rw[Cn]at Kr Wu ⊢;obtain⟨Y3,fR⟩:=Ae (Y.set (j+n) t)
     have qu9:sg Y3 j n=sg Y j n:=by rw[<- fR];exact zpt (Ab _)
     have zbd:Y3.length=X.length:=by rw[<- fR,List.length_set];exact Mt.out
     have zca:∀ e∈Y3,e<Ag:=by rw[<- fR];exact Un F7.out zes
     have qux:∀ e,e<j\/j+(n+1)<=e->Y3[e]?=X[e]? := fun e he=>by rw[<- fR,List.getElem?_set_ne (by omega)];exact uV.out e (by omega)
     have qwe:Y3[j+n]?=some t:=by rw[<- fR];exact List.getElem?_set_self qer.out
     rw[fR]at Kr;have zsu:=Aa qu9;have qx4:=Aa zbd;have qyf:=Aa zca;have zsi:=Aa qux;have zpq:=Aa qwe;clear Cn fR qu9 zbd zca qux qwe e1 f1 qj6 qme Us qvs qwi;go_wp2_with fail
     go_loopw [17,131] (fun uv iv wr=>∃ (i up:Nat) (Q:List Nat),i<=n/\uv=.int .u32 up/\iv=.int .i64 i/\up<=1/\Hid (Q.length=X.length)/\Hid (∀ e∈Q,e<Ag)/\Hid (bv Ag (sg Q j i)+Ag^i*up=bv Ag (sg Y3 j i)+bv Ag (V.take i))/\Hid (∀ e,e<j\/j+i<=e->Q[e]?=Y3[e]?)/\Hid (Ed wr T Q)/\Hid (w.grownBy wr (some T))) (fun _ iv _=>n-(intOf iv).toNat)
     case atStart=>exact⟨0,0,Y3,Nat.zero_le _,rfl,rfl,by omega,qx4,qyf,Aa (by simp[sg,bv]),Aa (fun _ _=>rfl),Kr,Wu⟩
     case round =>
      obtain⟨i,up,Q,hi,rfl,rfl,zjn,Lg,Xy,D9,Yp,kX,qf0⟩:=hrel;obtain⟨wq,rfl⟩:∃ wq:World,wq=wr:=⟨_,rfl⟩
      by_cases Aj:i<n
      ·obtain⟨v,hv⟩:∃ x,V[i]?=some x:=⟨_,Ac (by rw[Th.out];exact Aj)⟩
       have Xn:=wX.out v (List.mem_of_getElem? hv);have e4:wq.cell? ⟨vb,vo+i,none⟩=some (.int .u32 (v:Int)):=qf0.out.cell (qt9.out i v hv) (by simpa using Rw.out);obtain⟨x,hx⟩:∃ x,Y3[j+i]?=some x:=⟨_,Ac (by rw[qx4.out];have := HJ.out;omega)⟩;have Ib:=qyf.out x (List.mem_of_getElem? hx)
       have qzf:Q[j+i]?=some x:=by rw[Yp.out (j+i) (by omega)];exact hx
       have e1:wq.cell? ⟨T,j+i,none⟩=some (.int .u32 (x:Int)):=kX.out.at qzf;have f1:wq.frozen? ⟨T,j+i,none⟩=false:=kX.out.free (j+i);have Vu:=zl6 x v up Ib Xn zjn wq;have Y4:=Aa Vu;have HV:=Aa hv;have zt8:=Aa hx;clear hv hx qzf Vu;go_wp2_with fail
       refine Y4.out.mono ?_;clear Y4;rintro e w5 ⟨s,b',rfl,Sz,Gl,Je,rfl⟩
       have qrh:bv Ag (sg (Q.set (j+i) s) j (i+1))+Ag^(i+1)*b'=bv Ag (sg Y3 j (i+1))+bv Ag (V.take (i+1)):=by
        have zt9:j+i<Q.length:=by rw[Lg.out];have := HJ.out;omega
        rw[zA zt9,A5,mM (by omega),Vd HV.out,jE zt8.out,Nat.pow_succ,Nat.mul_assoc];have h1:=D9.out
        have h2:Ag^i*s+Ag^i*(Ag*b')=Ag^i*x+Ag^i*v+Ag^i*up:=by
         rw[<- Nat.mul_add,Je,Nat.mul_add,Nat.mul_add]
        omega
       have Bw:=Aa qrh;have zln:=Aa (kX.out.set (j+i) s);have yE:Hid (w.grownBy (wq.setCell ⟨T,j+i,none⟩ (.int .u32 (s:Int))) (some T)):=Aa (tM qf0.out (Fm _ _ _ _));have Sf:Hid (∀ e,e<j\/j+(i+1)<=e->(Q.set (j+i) s)[e]?=Y3[e]?):=Aa (fun e he=>by rw[List.getElem?_set_ne (by omega)];exact Yp.out e (by omega));have qig:Hid (∀ e∈Q.set (j+i) s,e<Ag):=Aa (Un Xy.out Sz);have qk8:Hid ((Q.set (j+i) s).length=X.length):=Aa (by rw[List.length_set];exact Lg.out);clear qrh Je;go_wp2_with fail
       exact⟨⟨i+1,b',Q.set (j+i) s,by omega,rfl,by go_num,Gl,qk8,qig,Bw,Sf,zln,yE⟩,by simp[intOf];omega⟩
      ·obtain rfl:n=i:=by omega
       have qzi:=D9.out;rw[List.take_of_length_le (by rw[Th.out];exact Ab _),HD.out,zsu.out,Js.out]at qzi
       have zgj:bv Ag (sg Q j n)<Bn':=by
        have := Nd (sg Q j n) (qeu Xy.out);rwa[mM (by rw[Lg.out];have := HJ.out;omega),Js.out]at this
       have qP:=nR.out;have h1:=qcj.out;have h2:=zap.out;have h3:=qP.high;have h6:=P8.out
       have Fx:c+b=z+1/\up=1:=by
        have h4:Bn'*(b+c)<Bn'*(1+up+z):=by
         rw[Nat.mul_add Bn' (1+up) z,Nat.mul_add Bn' 1 up,Nat.mul_one];omega
        have h5:=Nat.lt_of_mul_lt_mul_left h4;omega
       obtain⟨zn1,rfl⟩:=Fx
       have Nf:t=Ag-1:=by have := qJ.out;unfold Ag at *;omega
       have za2:Q[j+n]?=some t:=by rw[Yp.out (j+n) (by omega)];exact zpq.out
       have e1:wq.cell? ⟨T,j+n,none⟩=some (.int .u32 (t:Int)):=kX.out.at za2;have f1:wq.frozen? ⟨T,j+n,none⟩=false:=kX.out.free (j+n)
       have Gj:bv Ag (sg (Q.set (j+n) 0) j (n+1))+d*D=U+D:=by
        rw[zA (by rw[Lg.out];exact HJ.out),A5,Nat.mul_zero,Nat.add_zero]
        have h4:Bn'*(b+c)=Bn'*z+Bn':=by rw[show b+c=z+1 by omega,Nat.mul_add,Nat.mul_one]
        omega
       have Yi:U<d*D:=by
        have h4:Bn'*(b+c)=Bn'*z+Bn':=by rw[show b+c=z+1 by omega,Nat.mul_add,Nat.mul_one]
        have h5:=zps.out;omega
       have Gr:1<=d:=by
        rcases Nat.eq_zero_or_pos d with h | h
        ·rw[h]at Yi;simp at Yi
        ·exact h
       obtain⟨g,hg⟩:=Ae (d-1)
       have Qf:(d:Int)-1=(g:Int):=by omega
       have Fo:d*D=g*D+D:=by rw[show d=g+1 by omega,Nat.add_mul,Nat.one_mul]
       have Hk:U/D=g/\U%D=bv Ag (sg (Q.set (j+n) 0) j (n+1)):=by
        have Nm:0<D:=by
         rcases Nat.eq_zero_or_pos D with h | h
         ·rw[h]at Yi;simp at Yi
         ·exact h
        exact(Nat.div_mod_unique Nm).2 ⟨by rw[Nat.mul_comm D g];omega,by omega⟩
       have yU:((t:Int)+1)%4294967296=0:=by unfold Ag at Nf;omega
       have jba:IntKind.u32.wrap ((t:Int)+1)=0:=by unfold Ag at Nf;simp[IntKind.wrap,IntKind.bits,IntKind.signed];omega
       have zx8:IntKind.u64.wrap (g:Int)=g:=Cg (by unfold Ag at *;omega);have zxp:IntKind.u32.wrap (g:Int)=g:=Ze (by unfold Ag at *;omega);have Ig:=Aa Hk;have zge:=Aa (kX.out.set (j+n) 0);have cS:Hid (w.grownBy (wq.setCell ⟨T,j+n,none⟩ (.int .u32 ((0:Nat):Int))) (some T)):=Aa (tM qf0.out (Fm _ _ _ _));have zvq:Hid (∀ e,e<j\/j+(n+1)<=e->(Q.set (j+n) 0)[e]?=X[e]?):=Aa (fun e he=>by rw[List.getElem?_set_ne (by omega),Yp.out e (by omega)];exact zsi.out e he);have zu3:Hid (∀ e∈Q.set (j+n) 0,e<Ag):=Aa (Un Xy.out (by decide));have qbi:Hid ((Q.set (j+n) 0).length=X.length):=Aa (by rw[List.length_set];exact Lg.out);clear qzi zgj qP h1 h2 h3 h6 zn1 Nf za2 Gj Yi hg Fo Hk;go_wp2_with fail
       go_ret
       exact⟨Q.set (j+n) 0,by rw[Ig.out.1];rfl,zge.out,qbi.out,zu3.out,Ig.out.2.symm,zvq.out,cS.out⟩
end Go.Proofs.YtlldjmagbjjeoaaGreatDoor
namespace Go.Proofs
open Go.Shelf
def Tryz.lays133_ren:Go.Shelf.Ren:=⟨fun | 133=>157 | 128=>167 | n=>n,fun | 51=>172 | 3=>3 | 4=>4 | 46=>136 | 5=>5 | 9=>9 | n=>n,fun | n=>n⟩
theorem Tryz.lays133:Go.Proofs.Lays.n133 Tryz.prog Tryz.lays133_ren:={
 mixed:=by kernel_rfl
 f128:=Tryz.func167.trans (congrArg some (by kernel_rfl))
 f133:=Tryz.func157.trans (congrArg some (by kernel_rfl))
 t3:=Tryz.underlying3
 a3:=Tryz.isAgg3
 z3:=Tryz.sizeOf3
 v3:=Tryz.zeroValue3
 t4:=Tryz.underlying4
 a4:=Tryz.isAgg4
 z4:=Tryz.sizeOf4
 v4:=Tryz.zeroValue4
 t5:=Tryz.underlying5
 a5:=Tryz.isAgg5
 z5:=Tryz.sizeOf5
 v5:=Tryz.zeroValue5
 t9:=Tryz.underlying9
 a9:=Tryz.isAgg9
 z9:=Tryz.sizeOf9
 v9:=Tryz.zeroValue9
 t46:=Tryz.underlying136
 a46:=Tryz.isAgg136
 z46:=Tryz.sizeOf136
 v46:=Tryz.zeroValue136
 t51:=Tryz.underlying172
 a51:=Tryz.isAgg172
 z51:=Tryz.sizeOf172
 v51:=Tryz.zeroValue172 }
theorem Tryz.bits_LeadingZeros32 (x:Int) (w:World) (h0:0<=x) (h1:x<=4294967295) :
  Calls Tryz.prog 157 #[.int .u32 x] w fun e w'=>e=.returned (.int .i64 (32-(Lib.bitLen x.toNat:Int)))/\w'=w:=Any.bits_LeadingZeros32 Tryz.lays133 x w h0 h1
end Go.Proofs
namespace Go.Proofs.YtlldjmagbjjeoaaGreatDoor
open Go.RowKit
set_option linter.unusedVariables false
theorem qxn (x:Nat) (hx:x<Ag) (h0:x≠0) (w:World):∃ s:Nat,s<32/\x*2^s<Ag/\2147483648<=x*2^s/\Calls Tryz.prog 157 #[.int .u32 x] w fun e w'=>e=.returned (.int .i64 s)/\w'=w:=by
 have fE:x<2^64:=by unfold Ag at hx;omega
 obtain⟨h1,h2,h3⟩:=Lib.bitLenAux_bounds 64 x fE h0;have e:Lib.bitLen x=Lib.bitLenAux 64 x:=rfl;obtain⟨b,hb⟩:=Ae (Lib.bitLenAux 64 x);rw[hb]at h1 h2 h3 e
 have jbe:b<=32:=by
  rcases Nat.lt_or_ge 32 b with h | h
  ·have h4:2^32<=2^(b-1):=Nat.pow_le_pow_right (by omega) (by omega)
   unfold Ag at hx;omega
  ·exact h
 refine⟨32-b,by omega,?_,?_,?_⟩
 ·have h4:x*2^(32-b)<2^b*2^(32-b):=Nat.mul_lt_mul_of_pos_right h3 (Nat.pow_pos (by omega))
  rw[<- Nat.pow_add,show b+(32-b)=32 by omega]at h4;exact h4
 ·have h4:2^(b-1)*2^(32-b)<=x*2^(32-b):=Nat.mul_le_mul_right _ h2
  rw[<- Nat.pow_add,show b-1+(32-b)=31 by omega]at h4;exact h4
 ·have := Tryz.bits_LeadingZeros32 x w (by omega) (by unfold Ag at hx;omega)
  rw[Int.toNat_natCast,e]at this;rw[show((32-b:Nat):Int)=32-(b:Int)by omega];exact this
theorem qsk {l:List Nat} {k x:Nat} (hl:l.length=k+1) (hx:l[k]?=some x):bv Ag l=bv Ag (l.take k)+Ag^k*x:=by
 have:l=l.take (k+1):=(List.take_of_length_le (by omega)).symm
 conv=>lhs;rw[this]
 exact Vd hx
theorem zt4 {lb X:List Nat} {k t s:Nat} (hl:lb.length=k+1) (Aj:∀ d∈lb,d<Ag) (ht:lb[k]?=some t) (hs:s<32) (h1:t*2^s<Ag) (h2:2147483648<=t*2^s)
  (hX:X.length=k+2) (qdo:∀ d∈X,d<Ag) (L7:bv Ag X=bv Ag lb*2^s) :
  bv Ag (X.take (k+1))=bv Ag lb*2^s/\∀ y,(X.take (k+1))[k]?=some y->2147483648<=y:=by
 obtain⟨P,hP⟩:=Ae (2^s)
 have qv9:2^s*2^(32-s)=Ag:=by rw[<- Nat.pow_add,show s+(32-s)=32 by omega]
 rw[hP]at h1 h2 L7 qv9 ⊢;obtain⟨M,hM⟩:=Ae (Ag^k)
 have qax:0<M:=by rw[<- hM];exact Nat.pow_pos (by decide)
 have hb:=qsk hl ht;have Gq:=Nd (lb.take k) (fun d hd=>Aj d (List.mem_of_mem_take hd));rw[List.length_take,hl,show min k (k+1)=k by omega]at Gq;rw[hM]at hb Gq
 have Sd:0<P:=by rw[<- hP];exact Nat.pow_pos (by omega)
 obtain⟨x,hx⟩:∃ x,X[k+1]?=some x:=⟨_,Ac (by omega)⟩;obtain⟨y,hy⟩:∃ y,X[k]?=some y:=⟨_,Ac (by omega)⟩;have cW:=qsk hX hx
 have zk2:bv Ag (X.take (k+1))=bv Ag (X.take k)+M*y:=by rw[Vd hy,hM]
 have zam:=Nd (X.take k) (fun d hd=>qdo d (List.mem_of_mem_take hd));rw[List.length_take,hX,show min k (k+2)=k by omega,hM]at zam;have Ps:=qdo y (List.mem_of_getElem? hy)
 have zxo:bv Ag lb*P<M*Ag:=by
  have h3:bv Ag lb<M*(t+1):=by rw[hb,Nat.mul_add,Nat.mul_one];omega
  have h4:(t+1)*P<=Ag:=by
   have zT:2^(32-s)*P=Ag:=by rw[Nat.mul_comm];exact qv9
   have h5:t*P<2^(32-s)*P:=by rw[zT];exact h1
   have h6:=Nat.lt_of_mul_lt_mul_right h5;have h7:(t+1)*P<=2^(32-s)*P:=Nat.mul_le_mul_right _ h6;rw[zT]at h7;exact h7
  have h5:bv Ag lb*P<M*(t+1)*P:=Nat.mul_lt_mul_of_pos_right h3 Sd;have h6:M*((t+1)*P)<=M*Ag:=Nat.mul_le_mul_left _ h4;rw[Nat.mul_assoc]at h5;omega
 have F5:x=0:=by
  rcases Nat.eq_zero_or_pos x with h | h
  ·exact h
  ·have h3:Ag^(k+1)*1<=Ag^(k+1)*x:=Nat.mul_le_mul_left _ h
   rw[Nat.mul_one]at h3
   have h4:Ag^(k+1)=M*Ag:=by rw[Nat.pow_succ,hM]
   omega
 have hv:bv Ag (X.take (k+1))=bv Ag lb*P:=by
  rw[F5,Nat.mul_zero]at cW;rw[<- L7];exact cW.symm
 refine⟨hv,fun y' M9=>?_⟩;rw[List.getElem?_take_of_lt (by omega),hy]at M9;cases M9
 have h3:M*(t*P)<=bv Ag lb*P:=by
  rw[hb,Nat.add_mul,Nat.mul_assoc];omega
 rw[<- hv,zk2]at h3;have h4:M*2147483648<=M*(t*P):=Nat.mul_le_mul_left _ h2
 have h5:M*2147483648<M*(y+1):=by rw[Nat.mul_add,Nat.mul_one];omega
 have h6:=Nat.lt_of_mul_lt_mul_left h5;omega
structure Dvn (X2 X Q:List Nat) (D n i:Nat):Prop where
 val:bv Ag X2=Ag^i*(bv Ag (Q.drop i)*D)+(bv Ag (X.take i)+Ag^i*bv Ag (sg X i n))
 low:bv Ag (sg X i n)<D
 zero:X[i+n]?.getD 0=0
theorem zb8 {X:List Nat} {j n x:Nat} (hx:X[j]?=some x):bv Ag (sg X j (n+1))=x+Ag*bv Ag (sg X (j+1) n):=by
 unfold sg;have hj:=(List.getElem?_eq_some_iff.1 hx).1;rw[List.drop_eq_getElem_cons hj,List.take_succ_cons,bv]
 have:X[j]=x:=by have := Ac hj;rw[hx]at this;cases this;rfl
 rw[this]
theorem Dvn.step {X2 X X' Q:List Nat} {D n j q:Nat} (h:Dvn X2 X Q D n (j+1)) (zam:j+n<X.length) (qdo:∀ d∈X,d<Ag) (hX't:∀ d∈X',d<Ag) (hX'l:X'.length=X.length) (kN:D<Ag^n) (Nm:0<D) (hQ:j<Q.length)
  (hq:q=bv Ag (sg X j (n+1))/D) (hr:bv Ag (sg X' j (n+1))=bv Ag (sg X j (n+1))%D) (hk:∀ i,i<j\/j+(n+1)<=i->X'[i]?=X[i]?):Dvn X2 X' (Q.set j q) D n j:=by
 obtain⟨x,hx⟩:∃ x,X[j]?=some x:=⟨_,Ac (by omega)⟩;obtain⟨z,hz⟩:∃ z,X'[j+n]?=some z:=⟨_,Ac (by omega)⟩;have hU:=zb8 (n:=n) hx
 have Np:bv Ag (sg X' j (n+1))<D:=by rw[hr];exact Nat.mod_lt _ Nm
 have Ol:=jE hz
 have Cz:z=0:=by
  rcases Nat.eq_zero_or_pos z with h0 | h0
  ·exact h0
  ·have h3:Ag^n*1<=Ag^n*z:=Nat.mul_le_mul_left _ h0
   omega
 rw[Cz,Nat.mul_zero]at Ol;have hs:bv Ag (sg X' j (n+1))=bv Ag (sg X' j n):=Ol
 have Ea:X'.take j=X.take j:=by
  apply List.ext_getElem?
  intro i
  by_cases hi:i<j
  ·rw[List.getElem?_take_of_lt hi,List.getElem?_take_of_lt hi,hk i (.inl hi)]
  ·rw[List.getElem?_take_eq_none (by omega),List.getElem?_take_eq_none (by omega)]
 refine⟨?_,by rw[<- hs];exact Np,by rw[hz,Cz];rfl⟩;rw[qm3 hQ,bv,Ea,<- hs,hr];have h1:=h.val;rw[Vd hx]at h1;have h2:=Nat.div_add_mod (bv Ag (sg X j (n+1))) D;rw[<- hq]at h2;obtain⟨M,hM⟩:=Ae (Ag^j);rw[Nat.pow_succ,hM]at h1;rw[hM];obtain⟨R,hR⟩:=Ae (bv Ag (sg X j (n+1))%D);obtain⟨S,hS⟩:=Ae (bv Ag (sg X (j+1) n));obtain⟨E,hE⟩:=Ae (bv Ag (Q.drop (j+1)));rw[hR]at h2 ⊢;rw[hS]at h1 hU;rw[hE]at h1 ⊢;rw[h1,Nat.add_mul q,Nat.mul_add M]
 have e1:M*(q*D)+M*R=M*x+M*(Ag*S):=by
  rw[<- Nat.mul_add,Nat.mul_comm q D,h2,hU,Nat.mul_add]
 have e2:M*Ag*(E*D)=M*(Ag*E*D):=by rw[Nat.mul_assoc,<- Nat.mul_assoc Ag]
 have e3:M*Ag*S=M*(Ag*S):=Nat.mul_assoc _ _ _;omega
structure aC (X Y:List Nat) (P n i:Nat):Prop where
 val:bv Ag (Y.take i)*P+X[0]?.getD 0%P=bv Ag (X.take i)+Ag^i*(X[i]?.getD 0%P)
 keep:∀ k,i<=k->Y[k]?=X[k]?
theorem aC.start {X:List Nat} {P n:Nat}:aC X X P n 0:=⟨by simp[bv],fun _ _=>rfl⟩
theorem zij {P s x y:Nat} (hP:2^s=P) (hs:s<32) (hx:x<Ag):(y*Ag+x)/P%Ag*P=x-x%P+Ag*(y%P)/\(y*Ag+x)/P%Ag<Ag:=by
 have Sd:0<P:=by rw[<- hP];exact Nat.pow_pos (by omega)
 obtain⟨C,hC⟩:=Ae (2^(32-s))
 have uD:P*C=Ag:=by rw[<- hP,<- hC,<- Nat.pow_add,show s+(32-s)=32 by omega]
 refine⟨?_,Nat.mod_lt _ (by decide)⟩
 have h1:(y*Ag+x)/P=y*C+x/P:=by
  rw[<- uD,Nat.mul_left_comm,Nat.mul_add_div Sd]
 have zxx:x/P<C:=by
  refine Nat.div_lt_of_lt_mul ?_;rw[uD];exact hx
 have h2:(y*C+x/P)%Ag=(y%P)*C+x/P:=by
  have h3:y=P*(y/P)+y%P:=(Nat.div_add_mod y P).symm
  have h4:y*C+x/P=Ag*(y/P)+((y%P)*C+x/P):=by
   have e:y*C=P*(y/P)*C+(y%P)*C:=by rw[<- Nat.add_mul,<- h3]
   have e2:P*(y/P)*C=Ag*(y/P):=by rw[Nat.mul_right_comm,uD]
   omega
  rw[h4,Nat.mul_add_mod];refine Nat.mod_eq_of_lt ?_;have h5:y%P<P:=Nat.mod_lt _ Sd;have h6:(y%P+1)*C<=P*C:=Nat.mul_le_mul_right _ h5;rw[Nat.add_mul,Nat.one_mul,uD]at h6;omega
 rw[h1,h2,Nat.add_mul]
 have h3:x/P*P=x-x%P:=by have := Nat.div_add_mod x P;rw[Nat.mul_comm]at this;omega
 have h4:y%P*C*P=Ag*(y%P):=by rw[Nat.mul_assoc,Nat.mul_comm C P,uD,Nat.mul_comm]
 omega
theorem aC.step {X Y:List Nat} {P n i s x y z:Nat} (h:aC X Y P n i) (hP:2^s=P) (hs:s<32) (hx:X[i]?=some x) (Ib:x<Ag) (hy:X[i+1]?=some y) (hz:z=(y*Ag+x)/P%Ag) (hl:Y.length=X.length):aC X (Y.set i z) P n (i+1):=by
 have hi:=(List.getElem?_eq_some_iff.1 hx).1;obtain⟨h1,_⟩:=zij (y:=y) hP hs Ib;rw[<- hz]at h1;refine⟨?_,fun k hk=>by rw[List.getElem?_set_ne (by omega)];exact h.keep k (by omega)⟩;rw[uT (by omega),A5,List.length_take,show min i Y.length=i by omega,Vd hx,hy,Option.getD_some,Nat.pow_succ,Nat.add_mul,Nat.mul_assoc,h1];have h2:=h.val;rw[hx,Option.getD_some]at h2;have h3:x%P<=x:=Nat.mod_le _ _
 have e1:Ag^i*(x-x%P+Ag*(y%P))+Ag^i*(x%P)=Ag^i*x+Ag^i*Ag*(y%P):=by
  rw[<- Nat.mul_add,Nat.mul_assoc,<- Nat.mul_add];congr 1;omega
 omega
theorem aC.done {X Y:List Nat} {P n R:Nat} (h:aC X Y P n n) (Sd:0<P) (hz:X[n]?.getD 0=0) (hR:bv Ag (X.take n)=R*P):bv Ag (Y.take n)=R:=by
 have h1:=h.val;rw[hz,Nat.zero_mod,Nat.mul_zero,Nat.add_zero,hR]at h1;have h2:X[0]?.getD 0%P<P:=Nat.mod_lt _ Sd
 have h3:X[0]?.getD 0%P=0:=by
  have h4:(bv Ag (Y.take n)*P+X[0]?.getD 0%P)%P=0:=by rw[h1];exact Nat.mul_mod_left _ _
  rw[Nat.mul_add_mod_self_right,Nat.mod_mod]at h4;exact h4
 rw[h3,Nat.add_zero]at h1;exact Nat.eq_of_mul_eq_mul_right Sd h1
end Go.Proofs.YtlldjmagbjjeoaaGreatDoor
