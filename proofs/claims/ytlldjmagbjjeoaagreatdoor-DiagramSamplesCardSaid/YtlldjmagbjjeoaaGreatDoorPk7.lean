/- Contracts and plain laws, several texts in one (NW12, NW13, NLehm, NW14S, NKnu, NW9S). No conditions beyond those stated. -/
import Derived.Test.YtlldjmagbjjeoaaGreatDoorPk6
set_option maxRecDepth 100000
set_option maxHeartbeats 40000000
namespace Go.Proofs.YtlldjmagbjjeoaaGreatDoor
open Go.RowKit
set_option linter.unusedVariables false
theorem zhy (K B:Nat) (u:Value) (la:List Nat) (i:Nat) (w:World) (Bh:Ws K w u la) (hb:w.cell? ⟨B,0,none⟩=some u) :
  Calls Tryz.prog 170 #[.int .i64 i,.pointer (some ⟨B,0,none⟩)] w fun e w'=>e=.returned (.int .u64 (la[i]?.getD 0:Nat))/\w'=w:=by
 obtain⟨ua,uc,rfl,Ew,Ha⟩:=Bh.form;unfold maxLen at Ha;have Dj:=Bh.cells;obtain⟨p,hp⟩:=Ae la.length;rw[hp]at Ew hb
 by_cases Q7:i<p
 ·obtain⟨x,hx⟩:∃ x,la[i]?=some x:=⟨_,Ac (by rw[hp];exact Q7)⟩
  obtain⟨ub,uo,rfl,tF,G9,Ib⟩:=Dj i x hx;have hw:IntKind.u64.wrap (x:Int)=x:=Cg (by unfold Ag at Ib;omega);rw[hx]
  show Calls _ _ _ _ fun e w'=>e=.returned (.int .u64 (x:Int))/\w'=w
  clear Dj Bh hx hp;go_enter Tryz.func170,Tryz.ntmps170
  go_wp2_with fail
  go_ret
  exact⟨rfl,rfl⟩
 ·have h0:la[i]?.getD 0=0:=by rw[List.getElem?_eq_none (by rw[hp];omega)];rfl
  rw[h0];clear Dj Bh hp h0;go_enter Tryz.func170,Tryz.ntmps170
  go_wp2_with fail
  go_ret
  exact⟨rfl,rfl⟩
def Sr (la:List Nat) (n s:Nat):Nat:=(la[n-1]?.getD 0*Ag+la[n-2]?.getD 0)*2^s+la[n-3]?.getD 0/2^(32-s)
theorem qm6 (K:Nat) (u:Value) (la:List Nat) (n s:Nat) (w:World) (Bh:Ws K w u la) (hK:K<=w.heap.size) (hn:3<=n) (jae:n<=2^38) (hs:s<32) (hh:la[n-1]?.getD 0*2^s<Ag) :
  Calls Tryz.prog 162 #[u,.int .i64 n,.int .i64 s] w fun e w'=>e=.returned (.int .u64 (Sr la n s:Nat))/\Below w.heap.size w w':=by
 obtain⟨ua,uc,rfl,_,_⟩:=Bh.form;obtain⟨T,hT⟩:=Ae w.heap.size;rw[hT];obtain⟨p,hp⟩:=Ae la.length
 have iF:∀ i:Nat,la[i]?.getD 0<Ag:=fun i=>by
  cases h:la[i]? with
  | none=>decide
  | some d=>exact Bh.lt d (List.mem_of_getElem? h)
 obtain⟨h,U7⟩:∃ z,la[n-1]?.getD 0=z:=⟨_,rfl⟩;obtain⟨m,Wo⟩:∃ z,la[n-2]?.getD 0=z:=⟨_,rfl⟩;obtain⟨t,Yj⟩:∃ z,la[n-3]?.getD 0=z:=⟨_,rfl⟩
 have qzd:h<Ag:=U7 ▸ iF _
 have zoy:m<Ag:=Wo ▸ iF _
 have N5:t<Ag:=Yj ▸ iF _
 obtain⟨P,hP⟩:=Ae (2^s);obtain⟨Q,hQ⟩:=Ae (2^(32-s))
 have Xu:P*Q=Ag:=by rw[<- hP,<- hQ,<- Nat.pow_add,show s+(32-s)=32 by omega]
 rw[U7,hP]at hh;unfold Sr;rw[U7,Wo,Yj,hP,hQ]
 have Sd:0<P:=by rw[<- hP];exact Nat.pow_pos (by omega)
 obtain⟨H,hH⟩:∃ z,h*Ag=z:=⟨_,rfl⟩;obtain⟨S,hS⟩:∃ z,H+m=z:=⟨_,rfl⟩;obtain⟨D,hD⟩:∃ z,S*P=z:=⟨_,rfl⟩;obtain⟨tq,Yu⟩:∃ z,t/Q=z:=⟨_,rfl⟩;obtain⟨R,hR⟩:∃ z,D+tq=z:=⟨_,rfl⟩;rw[hH,hS,hD,Yu,hR]
 have zxw:(h:Int)*4294967296=(H:Int):=by unfold Ag at hH;omega
 have ze5:(S:Int)*(P:Int)=(D:Int):=by rw[<- hD];simp
 have zyo:(t:Int)/(Q:Int)=(tq:Int):=by rw[<- Yu];simp
 have oU:(2:Int)^s=(P:Int):=by rw[<- hP];simp
 obtain⟨s',Qz⟩:∃ z,32-s=z:=⟨_,rfl⟩
 have hs'i:(32:Int)-(s:Int)=(s':Int):=by omega
 have zy1:(2:Int)^s'=(Q:Int):=by rw[<- hQ,<- Qz];simp
 have zku:D+P<=18446744073709551616:=by
  have h1:h*P+1<=Ag:=hh
  have h2:S+1<=(h+1)*Ag:=by rw[Nat.add_mul,hH];omega
  have h3:(S+1)*P<=(h+1)*Ag*P:=Nat.mul_le_mul_right _ h2;rw[Nat.add_mul,hD,Nat.one_mul]at h3
  have h4:(h+1)*P<=Ag:=by
   rw[<- Xu];rw[<- Xu]at h1;have h5:h<Q:=Nat.lt_of_mul_lt_mul_left (a:=P) (by rw[Nat.mul_comm];omega);rw[Nat.mul_comm];exact Nat.mul_le_mul_left _ h5
  have h6:(h+1)*Ag*P=(h+1)*P*Ag:=by rw[Nat.mul_assoc,Nat.mul_comm Ag P,<- Nat.mul_assoc]
  have h7:(h+1)*P*Ag<=Ag*Ag:=Nat.mul_le_mul_right _ h4
  have h8:Ag*Ag=18446744073709551616:=by decide
  omega
 have zn6:tq<P:=by
  rw[<- Yu];refine Nat.div_lt_of_lt_mul ?_;rw[Nat.mul_comm,Xu];exact N5
 have zzb:bits BinOp.or IntKind.u64 (H:Int) (m:Int)=(S:Int):=by
  rw[u64_or_nat H m (by unfold Ag at *;omega) (by unfold Ag at *;omega)];have := Nat.two_pow_add_eq_or_of_lt (i:=32) (show m<2^32 from zoy) h
  have e:H=2^32*h:=by unfold Ag at hH;omega
  rw[e,<- this];omega
 have zlb:bits BinOp.or IntKind.u64 (D:Int) (tq:Int)=(R:Int):=by
  rw[u64_or_nat D tq (by omega) (by omega)];have := Nat.two_pow_add_eq_or_of_lt (i:=s) (show tq<2^s by rw[hP];exact zn6) S;rw[hP]at this
  have e:D=P*S:=by rw[Nat.mul_comm];exact hD.symm
  rw[e,<- this,<- hR,e]
 have Kw:IntKind.u64.wrap (H:Int)=H:=Cg (by unfold Ag at *;omega);have Gs:IntKind.u64.wrap (D:Int)=D:=Cg (by omega);obtain⟨n1,qfm⟩:∃ z,n-1=z:=⟨_,rfl⟩
 have Es:(n:Int)-1=(n1:Int):=by omega
 obtain⟨n2,qy7⟩:∃ z,n-2=z:=⟨_,rfl⟩
 have Dp:(n:Int)-2=(n2:Int):=by omega
 obtain⟨n3,qto⟩:∃ z,n-3=z:=⟨_,rfl⟩
 have Zc:(n:Int)-3=(n3:Int):=by omega
 obtain⟨W1,Ah⟩:∃ W,w.alloc (.cells #[.slice ua p uc] 160)=W:=⟨_,rfl⟩;have HT:=Aa hT;have Dk:=Aa Ah
 have Iq:W1.cell? ⟨T,0,none⟩=some (.slice ua p uc):=by rw[<- Ah,<- hT];simp
 have Bp:Below T w W1:=by rw[<- Ah,<- hT];exact Af _ _
 have Bi:=Aa Bp;have nA:Ws K W1 (.slice ua la.length uc) la:=Bh.below Bp (hT ▸ hK) (Ab _)
 have Ba:∀ (i:Nat) (k:Nat),Calls Tryz.prog 170 #[.int .i64 i,.pointer (some ⟨T,0,none⟩)] (W1.drewN k) fun e w'=>e=.returned (.int .u64 (la[i]?.getD 0:Nat))/\w'=W1.drewN k:=fun i k=>zhy K T (.slice ua la.length uc) la i (W1.drewN k) (nA.below (qdg (Below.refl T W1) k) (hT ▸ hK) (Ab _)) (hp.symm ▸ Iq)
 have Og:=Aa (Ba n1);have Gh:=Aa (Ba n2);have O6:=Aa (Ba n3);rw[qfm]at U7;rw[qy7]at Wo;rw[qto]at Yj;rw[U7]at Og;rw[Wo]at Gh;rw[Yj]at O6;rw[hp];clear Iq Bp nA Ba Bh;clear hp qfm qy7 qto U7 Wo Yj hH hS hD Yu hR hP hQ Xu iF;go_enter Tryz.func162,Tryz.ntmps162
 go_upto_region 2 with fail
 try rw[Dk.out]
 clear Ah;have c1:=Og.out;have c2:=Gh.out;have c3:=O6.out;refine wp_region_quiet_lit (by kernel_rfl) (by kernel_rfl) ?_
 iterate 3 go_big_quiet_step (fail)
 go_big_quiet_step (refine Calls.quiet_of_same (c1 _))
 iterate 4 go_big_quiet_step (fail)
 go_big_quiet_step (refine Calls.quiet_of_same (c2 _))
 iterate 6 go_big_quiet_step (fail)
 go_big_quiet_step (refine Calls.quiet_of_same (c3 _))
 iterate 5 go_big_quiet_step (fail)
 refine wpQuiet_nil ?_;rintro _ ⟨nq,rfl⟩;have Bz:=Aa (qdg Bi.out nq);clear c1 c2 c3 Og Gh O6;go_wp2_with fail
 go_ret
 exact⟨rfl,Bz.out⟩
theorem wA {la:List Nat} {n s:Nat} (Aj:∀ d∈la,d<Ag) (hl:la.length<=n) (hn:3<=n) (hs:s<32):Sr la n s=bv Ag la*2^s/Ag^(n-2):=by
 obtain⟨i,rfl⟩:∃ i,n=i+3:=⟨n-3,by omega⟩;unfold Sr;rw[show i+3-1=i+2 by omega,show i+3-2=i+1 by omega,show i+3-3=i by omega]
 have hb:bv Ag la=bv Ag (la.take (i+3)):=by rw[List.take_of_length_le hl]
 rw[hb,Wk,Wk,Wk];have hr:=Nd (la.take i) (fun d hd=>Aj d (List.mem_of_mem_take hd));have Dw:Ag^(la.take i).length<=Ag^i:=Nat.pow_le_pow_right (by decide) (by rw[List.length_take];omega);obtain⟨h,hh⟩:∃ z,la[i+2]?.getD 0=z:=⟨_,rfl⟩;obtain⟨m,hm⟩:∃ z,la[i+1]?.getD 0=z:=⟨_,rfl⟩;obtain⟨t,ht⟩:∃ z,la[i]?.getD 0=z:=⟨_,rfl⟩;obtain⟨R,hR⟩:∃ z,bv Ag (la.take i)=z:=⟨_,rfl⟩
 have Xu:2^s*2^(32-s)=Ag:=by rw[<- Nat.pow_add,show s+(32-s)=32 by omega]
 have Sd:0<2^s:=Nat.pow_pos (by omega);obtain⟨P,hP⟩:=Ae (2^s);obtain⟨Q,hQ⟩:=Ae (2^(32-s));have e1:Ag^(i+1)=Ag^i*Ag:=Nat.pow_succ ..
 have e2:Ag^(i+2)=Ag^i*Ag*Ag:=by rw[Nat.pow_succ,Nat.pow_succ]
 have qax:0<Ag^i:=Nat.pow_pos (by decide);rw[e1,e2,hh,hm,ht,hR,hP,hQ];rw[hR]at hr;rw[hP,hQ]at Xu;rw[hP]at Sd;obtain⟨M,hM⟩:=Ae (Ag^i);rw[hM]at Dw qax ⊢
 have zrd:R<M:=by omega
 have Pi:0<Ag:=by decide
 generalize Ag=B at Xu Pi ⊢
 have e3:(R+M*t+M*B*m+M*B*B*h)*P=(R+M*t)*P+M*B*((h*B+m)*P):=by
  have a1:M*B*((h*B+m)*P)=M*B*(h*B+m)*P:=(Nat.mul_assoc _ _ _).symm
  have a2:M*B*(h*B+m)=M*B*B*h+M*B*m:=by rw[Nat.mul_add,Nat.mul_comm h B,<- Nat.mul_assoc]
  rw[a1,a2,<- Nat.add_mul]
  congr 1
  omega
 rw[e3,Nat.add_mul_div_left _ _ (Nat.mul_pos qax Pi)]
 have e4:(R+M*t)*P/(M*B)=t/Q:=by
  rw[<- Xu,Nat.mul_comm P Q,<- Nat.mul_assoc,Nat.mul_div_mul_right _ _ Sd,<- Nat.div_div_eq_div_mul,Nat.add_mul_div_left _ _ qax,Nat.div_eq_of_lt zrd,Nat.zero_add]
 rw[e4,Nat.add_comm]
structure Lh where
 a1:Nat
 a2:Nat
 u0:Nat
 u1:Nat
 u2:Nat
 v0:Nat
 v1:Nat
 v2:Nat
 ev:Bool
def Lh.start (X Y:Nat):Lh:=⟨X,Y,0,1,0,0,0,1,false⟩
def Lh.go (s:Lh):Lh:=⟨s.a2,s.a1%s.a2,s.u1,s.u2,s.u1+s.a1/s.a2*s.u2,s.v1,s.v2,s.v1+s.a1/s.a2*s.v2,!s.ev⟩
def Lh.more (s:Lh):Prop:=s.v2<=s.a2/\s.v1+s.v2<=s.a1-s.a2
structure LhI (X Y:Nat) (s:Lh):Prop where
 le:s.a2<=s.a1
 d1:(s.a1:Int)=if s.ev then(s.v1:Int)*Y-s.u1*X else s.u1*X-s.v1*Y
 d2:(s.a2:Int)=if s.ev then(s.u2:Int)*X-s.v2*Y else s.v2*Y-s.u2*X
 det:(s.u1:Int)*s.v2-s.u2*s.v1=if s.ev then -1 else 1
 cv:s.a1*s.v2+s.a2*s.v1=X
 cu:s.a1*s.u2+s.a2*s.u1=Y
 p2:1<=s.v2
 m2:s.v1<=s.v2
 m0:s.v0<=s.v1
 lead:(s.v1=0/\s.u1=1/\s.u2=0/\s.v2=1/\s.v0=0/\s.a1=X/\s.a2=Y/\s.ev=false)\/(s.u1<=s.v1/\s.u2<=s.v2/\1<=s.v1/\1<=s.u2/\s.v1<=s.a1/\s.a1<=Y ∧
  ∃ a0:Nat,s.a1+s.v1+s.v0<=a0/\(a0:Int)=(if s.ev then(s.u0:Int)*X-s.v0*Y else s.v0*Y-s.u0*X)/\a0*s.v1+s.a1*s.v0=X/\(s.u0:Int)*s.v1-s.u1*s.v0=(if s.ev then 1 else -1) ∧
   ((s.v0=0/\s.u0=1/\s.u1=0/\s.v1=1)\/(1<=s.v0/\s.u0<=s.v0/\a0<=Y)))
theorem LhI.start {X Y:Nat} (h:Y<=X):LhI X Y (Lh.start X Y) where
 le:=h
 d1:=by show(X:Int)=((1:Nat):Int)*X-((0:Nat):Int)*Y;omega
 d2:=by show(Y:Int)=((1:Nat):Int)*Y-((0:Nat):Int)*X;omega
 det:=by show((1:Nat):Int)*((1:Nat):Int)-((0:Nat):Int)*((0:Nat):Int)=1;rfl
 cv:=by show X*1+Y*0=X;omega
 cu:=by show X*0+Y*1=Y;omega
 p2:=Ab _
 m2:=Nat.zero_le _
 m0:=Ab _
 lead:=.inl ⟨rfl,rfl,rfl,rfl,rfl,rfl,rfl,rfl⟩
theorem LhI.go {X Y:Nat} {s:Lh} (h:LhI X Y s) (hm:s.more):LhI X Y s.go:=by
 obtain⟨m1,m2'⟩:=hm;have Qg:=h.p2;have Bt:=h.le
 have P4:0<s.a2:=by omega
 have A9:s.a2*(s.a1/s.a2)+s.a1%s.a2=s.a1:=Nat.div_add_mod _ _;have hq:1<=s.a1/s.a2:=(Nat.le_div_iff_mul_le P4).2 (by omega);have Aj:s.a1%s.a2<s.a2:=Nat.mod_lt _ P4;obtain⟨a1,a2,u0,u1,u2,v0,v1,v2,ev⟩:=s;dsimp only at *;have Gr:=h.d1;have Lj:=h.d2;have xU:=h.det;have Ev:=h.cv;have qr0:=h.cu;have Nw:=h.m2;have hl:=h.lead;dsimp only at Gr Lj xU Ev qr0 Nw hl Qg Bt P4 m1 m2';unfold Lh.go;dsimp only
 generalize a1/a2=q at A9 hq ⊢
 generalize a1%a2=r at A9 Aj ⊢
 have Hq:v2<=q*v2:=Nat.le_mul_of_pos_left _ hq;have qC:u2<=q*u2:=Nat.le_mul_of_pos_left _ hq
 have zwr:u2<=v2->q*u2<=q*v2:=fun h=>Nat.mul_le_mul_left _ h
 have hr:(r:Int)=a1-q*a2:=by
  have:((a2*q+r:Nat):Int)=a1:=by rw[A9]
  rw[Int.natCast_add,Int.natCast_mul,Int.mul_comm]at this;omega
 clear h;refine⟨by show r<=a2;omega,?_,?_,?_,?_,?_,by show 1<=v1+q*v2;omega,by show v2<=v1+q*v2;omega,Nw,.inr ⟨?_,?_,Qg,?_,m1,?_,a1,?_,?_,Ev,?_,?_⟩⟩
 ·show(a2:Int)=if !ev then(v2:Int)*Y-u2*X else u2*X-v2*Y
  cases ev<;>simpa using Lj
 ·show(r:Int)=if !ev then((u1+q*u2:Nat):Int)*X-((v1+q*v2:Nat):Int)*Y else((v1+q*v2:Nat):Int)*Y-((u1+q*u2:Nat):Int)*X
  rw[hr];simp only[Int.natCast_add,Int.natCast_mul,Int.add_mul,Int.mul_assoc];cases ev
  ·simp only[Bool.false_eq_true,if_false,Bool.not_false,if_true]at Gr Lj ⊢
   rw[Gr,Lj,Int.mul_sub];omega
  ·simp only[if_true,Bool.not_true,Bool.false_eq_true,if_false]at Gr Lj ⊢
   rw[Gr,Lj,Int.mul_sub];omega
 ·show(u2:Int)*((v1+q*v2:Nat):Int)-((u1+q*u2:Nat):Int)*v2=if !ev then -1 else 1
  simp only[Int.natCast_add,Int.natCast_mul,Int.add_mul,Int.mul_add,Int.mul_assoc];rw[Int.mul_left_comm (u2:Int) q v2];cases ev
  ·simp only[Bool.false_eq_true,if_false,Bool.not_false,if_true]at xU ⊢
   omega
  ·simp only[if_true,Bool.not_true,Bool.false_eq_true,if_false]at xU ⊢
   omega
 ·show a2*(v1+q*v2)+r*v2=X
  rw[<- Ev,<- A9,Nat.mul_add,Nat.add_mul,Nat.mul_assoc];omega
 ·show a2*(u1+q*u2)+r*u2=Y
  rw[<- qr0,<- A9,Nat.mul_add,Nat.add_mul,Nat.mul_assoc];omega
 ·show u2<=v2
  omega
 ·show u1+q*u2<=v1+q*v2
  have := zwr (by omega)
  rcases hl with⟨e1,e2,e3,e4,_⟩ | ⟨e1,_⟩
  ·subst e3
   omega
  ·omega
 ·show 1<=u1+q*u2
  omega
 ·show a2<=Y
  omega
 ·show a2+v2+v1<=a1
  omega
 ·show(a1:Int)=if !ev then(u1:Int)*X-v1*Y else v1*Y-u1*X
  cases ev<;>simpa using Gr
 ·show(u1:Int)*v2-u2*v1=if !ev then 1 else -1
  cases ev<;>simpa using xU
 ·show(v1=0/\u1=1/\u2=0/\v2=1)\/(1<=v1/\u1<=v1/\a1<=Y)
  omega
theorem zux {u0 u1 v0 v1:Int} (A B:Int) (l10:u0*v1-u1*v0 = -1):v1*(v0*B-u0*A)+v0*(u1*A-v1*B)=A/\u1*(v0*B-u0*A)+u0*(u1*A-v1*B)=B:=by
 constructor
 ·have:(u0*v1-u1*v0)*A = -1*A:=by rw[l10]
  simp only[Int.mul_sub,Int.mul_comm,Int.mul_left_comm]at this ⊢;omega
 ·have:(u0*v1-u1*v0)*B = -1*B:=by rw[l10]
  simp only[Int.mul_sub,Int.mul_comm,Int.mul_left_comm]at this ⊢;omega
theorem zpj {u0 u1 v0 v1:Int} (A B:Int) (l10:u0*v1-u1*v0=1):v1*(u0*A-v0*B)+v0*(v1*B-u1*A)=A/\u1*(u0*A-v0*B)+u0*(v1*B-u1*A)=B:=by
 constructor
 ·have:(u0*v1-u1*v0)*A=1*A:=by rw[l10]
  simp only[Int.mul_sub,Int.mul_comm,Int.mul_left_comm]at this ⊢;omega
 ·have:(u0*v1-u1*v0)*B=1*B:=by rw[l10]
  simp only[Int.mul_sub,Int.mul_comm,Int.mul_left_comm]at this ⊢;omega
theorem qtw {A B A' B' p q r t:Nat} (h1:A=p*A'+q*B') (h2:B=r*A'+t*B') {c d e f:Nat} (h3:c*A=d*B+A'\/c*B=d*A+A') (h4:e*B=f*A+B'\/e*A=f*B+B'):Nat.gcd A' B'=Nat.gcd A B:=by
 refine Nat.dvd_antisymm (Nat.dvd_gcd ?_ ?_) (Nat.dvd_gcd ?_ ?_)
 ·rw[h1];exact Nat.dvd_add (Nat.dvd_mul_left_of_dvd (Nat.gcd_dvd_left _ _) _) (Nat.dvd_mul_left_of_dvd (Nat.gcd_dvd_right _ _) _)
 ·rw[h2];exact Nat.dvd_add (Nat.dvd_mul_left_of_dvd (Nat.gcd_dvd_left _ _) _) (Nat.dvd_mul_left_of_dvd (Nat.gcd_dvd_right _ _) _)
 ·rcases h3 with h3 | h3
  ·exact(Nat.dvd_add_right (Nat.dvd_mul_left_of_dvd (Nat.gcd_dvd_right A B) d)).1 (h3 ▸ Nat.dvd_mul_left_of_dvd (Nat.gcd_dvd_left A B) c)
  ·exact(Nat.dvd_add_right (Nat.dvd_mul_left_of_dvd (Nat.gcd_dvd_left A B) d)).1 (h3 ▸ Nat.dvd_mul_left_of_dvd (Nat.gcd_dvd_right A B) c)
 ·rcases h4 with h4 | h4
  ·exact(Nat.dvd_add_right (Nat.dvd_mul_left_of_dvd (Nat.gcd_dvd_left A B) f)).1 (h4 ▸ Nat.dvd_mul_left_of_dvd (Nat.gcd_dvd_right A B) e)
  ·exact(Nat.dvd_add_right (Nat.dvd_mul_left_of_dvd (Nat.gcd_dvd_right A B) f)).1 (h4 ▸ Nat.dvd_mul_left_of_dvd (Nat.gcd_dvd_left A B) e)
theorem LhI.fin {X Y:Nat} {s:Lh} (h:LhI X Y s) (hv:s.v0≠0) {k α β A B:Nat} (hα:α<k) (hβ:β<k) (hA:A=X*k+α) (hB:B=Y*k+β) :
  ∃ A' B':Nat,(if s.ev then s.u0*A=s.v0*B+A'/\s.v1*B=s.u1*A+B' else s.v0*B=s.u0*A+A'/\s.u1*A=s.v1*B+B')/\B'<A'/\B'<B/\Nat.gcd A' B'=Nat.gcd A B/\s.v1*s.v1<=X/\s.v0<=s.v1/\s.u0<=s.v1/\s.u1<=s.v1/\A'<=A:=by
 obtain⟨a1,a2,u0,u1,u2,v0,v1,v2,ev⟩:=s;have Gr:=h.d1;have hl:=h.lead;have b11:=h.m0;dsimp only at Gr hl hv b11 ⊢;clear h
 obtain⟨l1,l2,l3,l4,l5,l6,a0,l7,l8,l9,l10,l11⟩:=hl.resolve_left fun h=>hv h.2.2.2.2.1
 obtain⟨l12,l13,l14⟩:=l11.resolve_left fun h=>hv h.1
 have b1:a1*k+v1*k+v0*k<=a0*k:=by rw[<- Nat.add_mul,<- Nat.add_mul];exact Nat.mul_le_mul_right _ l7
 have b2:v0*β<=v0*k:=Nat.mul_le_mul_left _ (by omega);have b3:v1*β<=v1*k:=Nat.mul_le_mul_left _ (by omega);have b4:u1*α<=v1*k:=Nat.mul_le_mul l1 (by omega);have b5:u0*α<=v0*k:=Nat.mul_le_mul l13 (by omega);have b6:v1*k<=a1*k:=Nat.mul_le_mul_right _ l5;have b7:a0*k<=Y*k:=Nat.mul_le_mul_right _ l14;have b8:k<=v0*k:=Nat.le_mul_of_pos_left _ l12
 have b9:v0*β+v0<=v0*k:=by
  have:v0*(β+1)<=v0*k:=Nat.mul_le_mul_left _ hβ
  rwa[Nat.mul_add,Nat.mul_one]at this
 have b12:u0*α+v0<=v0*k:=by
  have h1:u0*α<=v0*α:=Nat.mul_le_mul_right _ l13;have h2:v0*(α+1)<=v0*k:=Nat.mul_le_mul_left _ hα;rw[Nat.mul_add,Nat.mul_one]at h2;omega
 have b10:v1*v1<=X:=by
  rw[<- l9]
  have:v1*v1<=a0*v1:=Nat.mul_le_mul_right _ (by omega)
  omega
 have zg4:(A:Int)=X*k+α:=by rw[hA];simp
 have sL:(B:Int)=Y*k+β:=by rw[hB];simp
 have c1:∀ u v:Nat,(u:Int)*A-v*B=((u:Int)*X-v*Y)*k+u*α-v*β:=fun u v=>by
  rw[zg4,sL];simp only[Int.mul_add,Int.sub_mul,Int.mul_assoc];omega
 have m1:((a1*k:Nat):Int)=(a1:Int)*k:=by simp
 have m2:((a0*k:Nat):Int)=(a0:Int)*k:=by simp
 have m3:((v0*β:Nat):Int)=(v0:Int)*β:=by simp
 have m4:((v1*β:Nat):Int)=(v1:Int)*β:=by simp
 have m5:((u1*α:Nat):Int)=(u1:Int)*α:=by simp
 have m6:((u0*α:Nat):Int)=(u0:Int)*α:=by simp
 have n1:((u0*A:Nat):Int)=(u0:Int)*A:=by simp
 have n2:((v0*B:Nat):Int)=(v0:Int)*B:=by simp
 have n3:((u1*A:Nat):Int)=(u1:Int)*A:=by simp
 have n4:((v1*B:Nat):Int)=(v1:Int)*B:=by simp
 have e0:=c1 u0 v0;have e1:=c1 u1 v1
 have Kb:∀ A' B':Nat,(v1:Int)*A'+v0*B'=A->(u1:Int)*A'+u0*B'=B->A=v1*A'+v0*B'/\B=u1*A'+u0*B':=fun A' B' h1 h2=>by
  constructor
  ·have:((v1*A'+v0*B':Nat):Int)=(A:Int):=by rw[<- h1];simp
   omega
  ·have:((u1*A'+u0*B':Nat):Int)=(B:Int):=by rw[<- h2];simp
   omega
 cases ev
 ·simp only[Bool.false_eq_true,if_false]at Gr l8 l10 ⊢
  have e0':(v0:Int)*B-u0*A=a0*k+v0*β-u0*α:=by
   rw[l8,Int.sub_mul];rw[Int.sub_mul]at e0;omega
  have e1':(u1:Int)*A-v1*B=a1*k+u1*α-v1*β:=by
   rw[Gr];exact e1
  have f1:((v0*B-u0*A:Nat):Int)=(v0:Int)*B-u0*A:=by omega
  have f2:((u1*A-v1*B:Nat):Int)=(u1:Int)*A-v1*B:=by omega
  obtain⟨j1,j2⟩:=zux (A:Int) (B:Int) l10;obtain⟨g1,g2⟩:=Kb (v0*B-u0*A) (u1*A-v1*B) (by rw[f1,f2];exact j1) (by rw[f1,f2];exact j2);refine⟨v0*B-u0*A,u1*A-v1*B,⟨by omega,by omega⟩,by omega,by omega,?_,b10,b11,by omega,l1,?_⟩
  ·exact qtw g1 g2 (c:=v0) (d:=u0) (e:=u1) (f:=v1) (.inr (by omega)) (.inr (by omega))
  ·have := Nat.le_mul_of_pos_left (v0*B-u0*A) l3
   omega
 ·simp only[if_true]at Gr l8 l10 ⊢
  have e0':(u0:Int)*A-v0*B=a0*k+u0*α-v0*β:=by rw[l8];exact e0
  have e1':(v1:Int)*B-u1*A=a1*k+v1*β-u1*α:=by
   rw[Gr,Int.sub_mul];rw[Int.sub_mul]at e1;omega
  have f1:((u0*A-v0*B:Nat):Int)=(u0:Int)*A-v0*B:=by omega
  have f2:((v1*B-u1*A:Nat):Int)=(v1:Int)*B-u1*A:=by omega
  obtain⟨j1,j2⟩:=zpj (A:Int) (B:Int) l10;obtain⟨g1,g2⟩:=Kb (u0*A-v0*B) (v1*B-u1*A) (by rw[f1,f2];exact j1) (by rw[f1,f2];exact j2);refine⟨u0*A-v0*B,v1*B-u1*A,⟨by omega,by omega⟩,by omega,by omega,?_,b10,b11,by omega,l1,?_⟩
  ·exact qtw g1 g2 (c:=u0) (d:=v0) (e:=v1) (f:=u1) (.inl (by omega)) (.inl (by omega))
  ·have := Nat.le_mul_of_pos_left (u0*A-v0*B) l3
   omega
structure Lh.Lt (s:Lh) (b:Nat):Prop where
 a1:s.a1<b
 a2:s.a2<b
 u0:s.u0<b
 u1:s.u1<b
 u2:s.u2<b
 v0:s.v0<b
 v1:s.v1<b
 v2:s.v2<b
theorem LhI.step {X Y b:Nat} {s:Lh} (h:LhI X Y s) (hX:X<b) (hs:s.Lt b) (hm:s.v2<=s.a2):s.v1+s.v2<b:=by
 have hp:=h.p2;have Bt:=h.le;have Ev:=h.cv;have h1:s.v2<=s.a1*s.v2:=Nat.le_mul_of_pos_left _ (by omega);have h2:s.v1<=s.a2*s.v1:=Nat.le_mul_of_pos_left _ (by omega);omega
theorem LhI.lt_go {X Y b:Nat} {s:Lh} (h:LhI X Y s) (hX:X<b) (hs:s.Lt b) (hm:s.more):s.go.Lt b:=by
 have hg:=h.go hm;have hp:=h.p2;obtain⟨m1,m2⟩:=hm;have Ev:s.a2*(s.v1+s.a1/s.a2*s.v2)+s.a1%s.a2*s.v2=X:=hg.cv;have hv:s.v1+s.a1/s.a2*s.v2<=s.a2*(s.v1+s.a1/s.a2*s.v2):=Nat.le_mul_of_pos_left _ (by omega);have hr:s.a1%s.a2<s.a2:=Nat.mod_lt _ (by omega)
 have hu:s.u1+s.a1/s.a2*s.u2<=s.v1+s.a1/s.a2*s.v2:=by
  rcases hg.lead with h | h
  ·have:s.v2=0:=h.1
   omega
  ·exact h.2.1
 have P4:=hs.a2;exact⟨hs.a2,show s.a1%s.a2<b by omega,hs.u1,hs.u2,show s.u1+s.a1/s.a2*s.u2<b by omega,hs.v1,hs.v2,show s.v1+s.a1/s.a2*s.v2<b by omega⟩
theorem Lh.lt_start {X Y b:Nat} (hX:X<b) (hY:Y<b) (hb:1<b):(Lh.start X Y).Lt b:=⟨hX,hY,by show 0<b;omega,hb,by show 0<b;omega,by show 0<b;omega,by show 0<b;omega,hb⟩
def Kq (b M h x r:Nat):Nat:=(h*b+x)*M+r
section
variable {b M top v2 Vr head u2 Ur d rest:Nat}
theorem zj5 (hr:Ur<M) (hd:d*top+rest=head) (h:rest*b+u2<d*v2):Kq b M head u2 Ur<d*Kq b M top v2 Vr:=by
 unfold Kq
 have h1:(head*b+u2+1)*M<=(d*(top*b+v2))*M:=by
  refine Nat.mul_le_mul_right _ ?_;rw[<- hd,Nat.add_mul,Nat.mul_add,Nat.mul_assoc];omega
 have h2:d*((top*b+v2)*M+Vr)=(d*(top*b+v2))*M+d*Vr:=by rw[Nat.mul_add,Nat.mul_assoc]
 rw[h2];rw[Nat.add_mul,Nat.one_mul]at h1;omega
theorem ze8 {U V:Nat} (h:U<V*b) (hd:b<=d):U<d*V:=by
 have := Nat.mul_le_mul_right V hd;rw[Nat.mul_comm b V]at this;omega
theorem zsg (ht:0<top) (hu:u2<b) (hr:Ur<M):Kq b M head u2 Ur<(head/top+1)*Kq b M top v2 Vr:=by
 unfold Kq
 have h0:head<(head/top+1)*top:=by rw[Nat.mul_comm];exact Nat.lt_mul_div_succ head ht
 have h1:(head*b+u2+1)*M<=((head/top+1)*(top*b+v2))*M:=by
  refine Nat.mul_le_mul_right _ ?_
  have:(head+1)*b<=((head/top+1)*top)*b:=Nat.mul_le_mul_right _ h0
  rw[Nat.mul_add,<- Nat.mul_assoc];rw[Nat.add_mul,Nat.one_mul]at this;omega
 have h2:(head/top+1)*((top*b+v2)*M+Vr)=((head/top+1)*(top*b+v2))*M+(head/top+1)*Vr:=by rw[Nat.mul_add,Nat.mul_assoc]
 rw[h2];rw[Nat.add_mul,Nat.one_mul]at h1;omega
theorem zeg (ht:0<top) (hv:Vr<M) (hd:d*top+rest=head) (m9:d<=b) (h:d*v2<=rest*b+u2):d*Kq b M top v2 Vr<=Kq b M head u2 Ur+Kq b M top v2 Vr:=by
 unfold Kq
 have h1:(d*(top*b+v2))*M<=(head*b+u2)*M:=by
  refine Nat.mul_le_mul_right _ ?_;rw[<- hd,Nat.add_mul,Nat.mul_add,Nat.mul_assoc];omega
 have h2:d*((top*b+v2)*M+Vr)=(d*(top*b+v2))*M+d*Vr:=by rw[Nat.mul_add,Nat.mul_assoc]
 have h3:d*Vr<=b*M:=Nat.mul_le_mul m9 (by omega)
 have h4:b*M<=(top*b+v2)*M:=by
  refine Nat.mul_le_mul_right _ ?_
  have:1*b<=top*b:=Nat.mul_le_mul_right _ ht
  omega
 rw[h2];omega
theorem zxh {U:Nat} (hb:0<b) (ht:b<=2*top) (hu:u2<b) (hr:Ur<M) (Bs:v2<b) (hv:Vr<M) (h:Kq b M head u2 Ur<Kq b M top v2 Vr*b):head<=top*b+b-1:=by
 unfold Kq at h
 have h1:(top*b+v2)*M+Vr<(top*b+b)*M:=by
  have:(top*b+v2+1)*M<=(top*b+b)*M:=Nat.mul_le_mul_right _ (by omega)
  rw[Nat.add_mul,Nat.one_mul]at this;omega
 have h2:(head*b)*M<((top*b+b)*b)*M:=by
  have h3:((top*b+v2)*M+Vr)*b<=((top*b+b)*M)*b:=Nat.mul_le_mul_right _ (by omega)
  have h4:((top*b+b)*M)*b=((top*b+b)*b)*M:=by rw[Nat.mul_right_comm]
  have h5:(head*b)*M<=(head*b+u2)*M:=Nat.mul_le_mul_right _ (by omega);omega
 have h3:head*b<(top*b+b)*b:=Nat.lt_of_mul_lt_mul_right h2;have h4:head<top*b+b:=Nat.lt_of_mul_lt_mul_right h3;omega
end
def sg (X:List Nat) (j i:Nat):List Nat:=(X.drop j).take i
theorem mM {X:List Nat} {j i:Nat} (h:j+i<=X.length):(sg X j i).length=i:=by unfold sg;rw[List.length_take,List.length_drop];omega
theorem qeu {X:List Nat} {j i:Nat} (h:∀ d∈X,d<Ag):∀ d∈sg X j i,d<Ag:=fun d hd=>h d (List.mem_of_mem_drop (List.mem_of_mem_take hd))
theorem jE {X:List Nat} {j i x:Nat} (h:X[j+i]?=some x):bv Ag (sg X j (i+1))=bv Ag (sg X j i)+Ag^i*x:=by
 unfold sg;exact Vd (by rw[List.getElem?_drop];exact h)
theorem zA {X:List Nat} {j i d:Nat} (h:j+i<X.length):sg (X.set (j+i) d) j (i+1)=sg X j i++[d]:=by
 unfold sg;rw[List.drop_set,if_neg (by omega),show j+i-j=i by omega];exact uT (by rw[List.length_drop];omega)
theorem zpt {X:List Nat} {j i k d:Nat} (h:i<=k):sg (X.set (j+k) d) j i=sg X j i:=by
 unfold sg;rw[List.drop_set,if_neg (by omega),show j+k-j=k by omega,List.take_set_of_le h]
theorem zme {A M x y z:Nat}:A+M*x+M*Ag*y+M*Ag*Ag*z=Kq Ag M (z*Ag+y) x A:=by
 unfold Kq Ag
 have e1:M*4294967296*y=4294967296*(M*y):=by rw[Nat.mul_right_comm,Nat.mul_comm]
 have e2:M*4294967296*4294967296*z=4294967296*(4294967296*(M*z)):=by rw[Nat.mul_right_comm,Nat.mul_right_comm M,Nat.mul_comm,Nat.mul_comm (M*z)]
 have e3:((z*4294967296+y)*4294967296+x)*M=4294967296*(4294967296*(M*z))+4294967296*(M*y)+M*x:=by
  rw[Nat.add_mul,Nat.mul_comm x M,Nat.mul_comm _ M,<- Nat.mul_assoc,Nat.mul_add,Nat.add_mul,<- Nat.mul_assoc,Nat.mul_comm (M*z*4294967296),Nat.mul_comm (M*z),Nat.mul_comm (M*y)]
 omega
theorem zf3 {A M x y:Nat}:A+M*x+M*Ag*y=Kq Ag M y x A:=by
 unfold Kq Ag
 have e1:M*4294967296*y=4294967296*(M*y):=by rw[Nat.mul_right_comm,Nat.mul_comm]
 have e3:(y*4294967296+x)*M=4294967296*(M*y)+M*x:=by
  rw[Nat.add_mul,Nat.mul_comm x M,Nat.mul_comm _ M,<- Nat.mul_assoc,Nat.mul_comm (M*y)]
 omega
theorem zky {X:List Nat} {j k x y z:Nat} (hx:X[j+k]?=some x) (hy:X[j+(k+1)]?=some y) (hz:X[j+(k+2)]?=some z):bv Ag (sg X j (k+3))=Kq Ag (Ag^k) (z*Ag+y) x (bv Ag (sg X j k)):=by
 rw[jE hz,jE hy,jE hx,Nat.pow_succ,Nat.pow_succ];exact zme
theorem zjb {V:List Nat} {k x y:Nat} (hl:V.length=k+2) (hx:V[k]?=some x) (hy:V[k+1]?=some y):bv Ag V=Kq Ag (Ag^k) y x (bv Ag (V.take k)):=by
 have e:bv Ag V=bv Ag (V.take (k+1+1)):=by rw[List.take_of_length_le (by omega)]
 rw[e,Vd hy,Vd hx,Nat.pow_succ];exact zf3
structure Dig (U V head top d rest:Nat):Prop where
 eq:d*top+rest=head
 low:U<(d+1)*V
theorem Dig.down {U V head top d rest:Nat} (h:Dig U V head top d rest) (hb:U<d*V):1<=d/\Dig U V head top (d-1) (rest+top):=by
 have hd:1<=d:=by
  rcases Nat.eq_zero_or_pos d with h0 | h0
  ·rw[h0]at hb;omega
  ·exact h0
 obtain⟨c,rfl⟩:∃ c,d=c+1:=⟨d-1,by omega⟩;refine⟨hd,?_,by simpa using hb⟩;have := h.eq;rw[Nat.add_mul,Nat.one_mul]at this;simp;omega
structure vX (U V d:Nat):Prop where
 low:U<(d+1)*V
 high:d*V<=U+V
 lt:d<Ag
theorem zac {M head top v2 Vr u2 Ur d rest:Nat} (h:Dig (Kq Ag M head u2 Ur) (Kq Ag M top v2 Vr) head top d rest) (ht:0<top) (hv:Vr<M) (hd:d<Ag) (Bt:d*v2<=rest*Ag+u2):vX (Kq Ag M head u2 Ur) (Kq Ag M top v2 Vr) d :=
 ⟨h.low,zeg ht hv h.eq (Nat.le_of_lt hd) Bt,hd⟩
theorem znv {M head top v2 Vr u2 Ur d rest:Nat} (h:Dig (Kq Ag M head u2 Ur) (Kq Ag M top v2 Vr) head top d rest) (ht:0<top) (hv:Vr<M) (Bs:v2<Ag) (hh:head<=top*Ag+Ag-1) (hr:Ag<=rest):vX (Kq Ag M head u2 Ur) (Kq Ag M top v2 Vr) d:=by
 have hd:d<Ag:=by
  rcases Nat.lt_or_ge d Ag with h1 | h1
  ·exact h1
  ·have h2:Ag*top<=d*top:=Nat.mul_le_mul_right _ h1
   have h3:=h.eq;rw[Nat.mul_comm]at h2;unfold Ag at *;omega
 refine zac h ht hv hd ?_;have h1:d*v2<=Ag*Ag:=Nat.mul_le_mul (Nat.le_of_lt hd) (Nat.le_of_lt Bs);have h2:Ag*Ag<=rest*Ag:=Nat.mul_le_mul_right _ hr;omega
theorem ztj {d v c x b:Nat} (hd:d<Ag) (hv:v<Ag) (hc:c<Ag) (hx:x<Ag) (hb:b<=1) :
  d*v+c<18446744073709551616/\(d*v+c)/Ag<Ag/\∃ n b',n<Ag/\b'<=1/\n+(d*v+c)%Ag+b=x+Ag*b':=by
 have h1:d*v<=4294967295*4294967295:=Nat.mul_le_mul (by unfold Ag at hd;omega) (by unfold Ag at hv;omega);unfold Ag at *;refine⟨by omega,by omega,?_⟩
 by_cases h:(d*v+c)%4294967296+b<=x
 ·exact⟨x-((d*v+c)%4294967296+b),0,by omega,by omega,by omega⟩
 ·exact⟨x+4294967296-((d*v+c)%4294967296+b),1,by omega,by omega,by omega⟩
end Go.Proofs.YtlldjmagbjjeoaaGreatDoor
