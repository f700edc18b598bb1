/- Contracts and plain laws, several texts in one (NW8, NW11). No conditions beyond those stated. -/
import Derived.Test.YtlldjmagbjjeoaaGreatDoorPk5
set_option maxRecDepth 100000
set_option maxHeartbeats 40000000
namespace Go.Proofs.YtlldjmagbjjeoaaGreatDoor
open Go.RowKit
set_option linter.unusedVariables false
theorem qm3 {l:List Nat} {i x:Nat} (hi:i<l.length):(l.set i x).drop i=x::l.drop (i+1):=by
 rw[List.drop_eq_getElem_cons (by rw[List.length_set];exact hi),List.getElem_set_self,List.drop_set_of_lt (by omega)]
theorem qdg {B:Nat} {w w':World} (h:Below B w w') (k:Nat):Below B w (w'.drewN k):=Gn h k
theorem zvg (K:Nat) (u:Value) (la:List Nat) (d:Nat) (w:World) (Bh:Ws K w u la) (hK:K<=w.heap.size) (En:la.length<=2^30) (Gp:0<d) (M2:d<Ag) :
  Calls Tryz.prog 156 #[u,.int .u32 d] w fun e w'=>∃ v',e=.returned (.tuple #[v',.int .u32 (bv Ag la%d:Nat)])/\Bn w'.heap.size w' v' (bv Ag la/d)/\Below w.heap.size w w'/\Bj w.heap.size v':=by
 obtain⟨ua,uc,rfl,Ew,Ha⟩:=Bh.form;unfold maxLen at Ha;have Dj:=Bh.cells;obtain⟨p,hp⟩:=Ae la.length;rw[hp]at Ew En ⊢;obtain⟨T,hT⟩:=Ae w.heap.size;rw[hT]at hK ⊢;have Fs:=fC p (by omega) w;rw[hT]at Fs;obtain⟨W1,Ah⟩:∃ W,w.alloc (.cells (Fa (List.replicate p 0)) 172)=W:=⟨_,rfl⟩
 have b1:Below T w W1:=by rw[<- Ah,<- hT];exact Af _ _
 have q1:Ed W1 T (List.replicate p 0):=by
  have:Blk W1 T (Fa (List.replicate p 0)) 172:=by rw[<- Ah,<- hT];exact Blk.new w _ _
  exact mF this
 obtain⟨Q,hQ⟩:=Ae (bv Ag la/d);obtain⟨R,hR⟩:=Ae (bv Ag la%d);rw[hQ,hR];have HQ:=Aa hQ;have HR:=Aa hR;have HP:=Aa hp;have HT:=Aa hT;have Gm:=Aa Dj;have Dk:=Aa Ah;have Bi:=Aa b1;have Bc:=Aa q1;have qd1:=Aa Bh.lt;clear Bh hp hT Dj Ah b1 q1 hQ hR;go_enter Tryz.func156,Tryz.ntmps156
 go_upto_region 2 with fail
 try simp only[HT.out]
 rw[Dk.out];go_wp2_with fail
 go_loopw [7,8] (fun rv iv wr=>∃ (i r:Nat) (X:List Nat),i<=p/\iv=.int .i64 ((i:Int)-1)/\rv=.int .u32 r/\r<d/\Hid (X.length=p)/\Hid (∀ d∈X,d<Ag)/\Hid (bv Ag (la.drop i)=bv Ag (X.drop i)*d+r)/\Hid (Ed wr T X)/\Hid (Below T w wr)) (fun _ iv _=>(intOf iv+1).toNat)
 case atStart=>exact⟨p,0,List.replicate p 0,Ab _,rfl,rfl,Gp,Aa (by simp),Aa (fun d hd=>by rw[List.eq_of_mem_replicate hd];decide),Aa (by rw[List.drop_of_length_le (by rw[HP.out];exact Ab _),List.drop_of_length_le (by simp)];simp[bv]),Bc,Bi⟩
 case round =>
  obtain⟨i,r,X,hi,rfl,rfl,qal,Co,Ia,Mi,Lr,La⟩:=hrel;obtain⟨wo,rfl⟩:∃ wo:World,wo=wr:=⟨_,rfl⟩
  cases i with
  | zero =>
   have h0:=Mi.out;rw[List.drop_zero,List.drop_zero]at h0
   have qzk:bv Ag X=Q:=by
    rw[<- HQ.out,h0,Nat.mul_comm,Nat.mul_add_div Gp,Nat.div_eq_of_lt qal,Nat.add_zero]
   have zm7:r=R:=by
    rw[<- HR.out,h0,Nat.mul_comm,Nat.mul_add_mod,Nat.mod_eq_of_lt qal]
   subst zm7;have Ki:=Lr.out.ws (K:=wo.heap.size) (c:=p) Lr.out.lt (by rw[Co.out];exact Ab _) (by unfold maxLen;omega) Ia.out;have ht:=Yr wo.heap.size _ X wo Ki;rw[Co.out,qzk]at ht;have K9:=Aa ht;clear Ki ht qzk h0;go_wp2_with fail
   refine K9.out.mono ?_;clear K9;rintro e w9 ⟨a9,n9,c9,k9,he,rfl,Fw,rfl⟩;simp only[Value.slice.injEq]at he;obtain⟨rfl,rfl,rfl⟩:=he;have Js:=Aa Fw;clear Fw;go_wp2_with fail
   go_ret2
   exact⟨_,rfl,Js.out,La.out,Bj.at (Ab _)⟩
  | succ i =>
   have dH:(((i+1:Nat):Int)-1)=(i:Int):=by omega
   rw[dH]
   have Q7:i<p:=by omega
   obtain⟨x,hx⟩:∃ x,la[i]?=some x:=⟨_,Ac (by rw[HP.out];exact Q7)⟩;obtain⟨ub,uo,rfl,tF,G9,Ib⟩:=Gm.out i x hx;have e0:wo.cell? ⟨ub,uo+i,none⟩=some (.int .u32 (x:Int)):=(La.out.cell (p:=⟨ub,uo+i,none⟩) (show ub<T by omega)).trans G9;obtain⟨old,ho⟩:∃ o,X[i]?=some o:=⟨_,Ac (by rw[Co.out];exact Q7)⟩;have Hk:=zjf r x d qal Ib M2 wo
   have qa0:(r*Ag+x)/d<Ag:=by
    refine Nat.div_lt_of_lt_mul ?_
    have:(r+1)*Ag<=d*Ag:=Nat.mul_le_mul_right _ qal
    unfold Ag at *;omega
   have Dw:(r*Ag+x)%d<d:=Nat.mod_lt _ Gp;have Ls:=zmd (b:=Ag) hx Mi.out;obtain⟨q2,Dz⟩:∃ z,(r*Ag+x)/d=z:=⟨_,rfl⟩;obtain⟨r2,qd5⟩:∃ z,(r*Ag+x)%d=z:=⟨_,rfl⟩;rw[Dz,qd5]at Hk Ls;rw[Dz]at qa0;rw[qd5]at Dw;have Ig:=Aa Hk;have dB:=Aa Ls;have HO:=Aa ho;clear G9 hx Hk Ls ho Dz qd5 dH;go_wp2_with fail
   refine Ig.out.mono ?_;clear Ig;rintro e w3 ⟨rfl,k,hk⟩
   have Cx:Ed w3 T X:=by rw[hk];exact Lr.out
   have Va:Below T w w3:=by rw[hk];exact Gn La.out k
   have e1:w3.cell? ⟨T,i,none⟩=some (.int .u32 (old:Int)):=Cx.at HO.out;have f1:w3.frozen? ⟨T,i,none⟩=false:=Cx.free i;have Kr:=Aa (Cx.set i q2);have Bz:=Aa (Va.setCell (p:=⟨T,i,none⟩) (Ab _) (.int .u32 (q2:Int)));clear hk Cx Va e0;go_wp2_with fail
   exact⟨⟨i,r2,X.set i q2,by omega,rfl,rfl,Dw,Aa (by rw[List.length_set];exact Co.out),Aa (Un Ia.out qa0),Aa (by rw[qm3 (by rw[Co.out];exact Q7)];exact dB.out),Kr,Bz⟩,by simp[intOf]⟩
theorem qve (K:Nat) (u:Value) (la:List Nat) (n:Nat) (w:World) (Bh:Ws K w u la) (hK:K<=w.heap.size) (En:la.length<=2^30) (hn:n<32) :
  Calls Tryz.prog 158 #[u,.int .i64 n] w fun e w'=>∃ X,e=.returned (.slice (some ⟨w.heap.size,0,none⟩) (la.length+1) (la.length+1))/\Ed w' w.heap.size X/\X.length=la.length+1/\(∀ d∈X,d<Ag)/\bv Ag X=bv Ag la*2^n/\Below w.heap.size w w'/\w'.heap.size=w.heap.size+1:=by
 obtain⟨ua,uc,rfl,Ew,Ha⟩:=Bh.form;unfold maxLen at Ha;have Dj:=Bh.cells;obtain⟨p,hp⟩:=Ae la.length;rw[hp]at Ew En ⊢;obtain⟨T,hT⟩:=Ae w.heap.size;rw[hT]at hK ⊢;obtain⟨m,hm⟩:=Ae (p+1)
 have D7:(p:Int)+1=(m:Int):=by omega
 have Fs:=fC m (by omega) w;rw[hT]at Fs;obtain⟨W1,Ah⟩:∃ W,w.alloc (.cells (Fa (List.replicate m 0)) 172)=W:=⟨_,rfl⟩
 have b1:Below T w W1:=by rw[<- Ah,<- hT];exact Af _ _
 have q1:Ed W1 T (List.replicate m 0):=by
  have:Blk W1 T (Fa (List.replicate m 0)) 172:=by rw[<- Ah,<- hT];exact Blk.new w _ _
  exact mF this
 have s1:W1.heap.size=T+1:=by rw[<- Ah,<- hT];simp
 obtain⟨P,hP⟩:=Ae (2^n)
 have zu4:P<=2147483648:=by rw[<- hP];exact Nat.pow_le_pow_right (by omega) (show n<=31 by omega)
 rw[hm,hP]
 have oU:(2:Int)^n=(P:Int):=by rw[<- hP];simp
 have Ko:=Aa hP;have HP:=Aa hp;have HM:=Aa hm;have HT:=Aa hT;have Gm:=Aa Dj;have Dk:=Aa Ah;have Bi:=Aa b1;have Bc:=Aa q1;have Oq:=Aa s1;clear Bh hp hT Dj Ah b1 q1 hP s1 hm;go_enter Tryz.func158,Tryz.ntmps158
 go_upto_region 2 with fail
 try simp only[HT.out]
 rw[Dk.out];go_wp2_with fail
 go_loopw [15] (fun iv wr=>∃ (i:Nat) (X:List Nat),i<=p/\iv=.int .i64 i/\Hid (X.length=m)/\Hid (∀ d∈X,d<Ag)/\Hid (X[i]?.getD 0<P)/\Hid (∀ k,i<k->k<m->X[k]?=some 0)/\Hid (bv Ag X=bv Ag (la.take i)*P)/\Hid (Ed wr T X)/\Hid (Below T w wr)/\Hid (wr.heap.size=T+1)) (fun iv _=>p-(intOf iv).toNat)
 case atStart=>exact⟨0,List.replicate m 0,Nat.zero_le _,rfl,Aa (by simp),Aa (fun d hd=>by rw[List.eq_of_mem_replicate hd];decide),Aa (by
  have h1:0<P:=by rw[<- Ko.out];exact Nat.pow_pos (by omega)
  have h2:=HM.out;rw[List.getElem?_replicate,if_pos (by omega)]
  exact h1),Aa (fun k _ hk=>by simp[hk]),Aa (by rw[vY];simp[bv]),Bc,Bi,Oq⟩
 case round =>
  obtain⟨i,X,hi,rfl,Co,Ia,pN,sV,Mi,Lr,La,Pf⟩:=hrel;obtain⟨wo,rfl⟩:∃ wo:World,wo=wr:=⟨_,rfl⟩
  by_cases Aj:i<p
  ·obtain⟨x,hx⟩:∃ x,la[i]?=some x:=⟨_,Ac (by rw[HP.out];exact Aj)⟩
   obtain⟨ub,uo,rfl,tF,G9,Ib⟩:=Gm.out i x hx;have e0:wo.cell? ⟨ub,uo+i,none⟩=some (.int .u32 (x:Int)):=(La.out.cell (p:=⟨ub,uo+i,none⟩) (show ub<T by omega)).trans G9;obtain⟨y,hy⟩:∃ y,X[i]?=some y:=⟨_,Ac (by rw[Co.out];have := HM.out;omega)⟩
   have zg8:y<P:=by have := pN.out;rw[hy,Option.getD_some]at this;exact this
   have P6:i+1<m:=by have := HM.out;omega
   have hz:=sV.out (i+1) (by omega) P6;obtain⟨D,hD⟩:=Ae (x*P)
   have ze5:(x:Int)*(P:Int)=(D:Int):=by rw[<- hD];simp
   have zku:D<9223372036854775808:=by
    rw[<- hD];have h1:x*P<=4294967295*2147483648:=Nat.mul_le_mul (by unfold Ag at Ib;omega) zu4;omega
   obtain⟨lo,Kx⟩:=Ae (D%4294967296);obtain⟨hh,qnd⟩:=Ae (D/4294967296)
   have qed:∃ k,lo=P*k/\k+1<=2^(32-n):=by
    refine⟨x%2^(32-n),?_,Nat.mod_lt _ (Nat.pow_pos (by omega))⟩;rw[<- Kx,<- hD,Nat.mul_comm x P,<- Ko.out,<- Nat.mul_mod_mul_left,<- Nat.pow_add,show n+(32-n)=32 by omega]
   obtain⟨z,R6⟩:=Ae (y+lo)
   have uU:z<4294967296:=by
    obtain⟨k,hk,Jk⟩:=qed;have h1:P*(k+1)<=P*2^(32-n):=Nat.mul_le_mul_left _ Jk;rw[<- Ko.out,<- Nat.pow_add,show n+(32-n)=32 by omega,Ko.out,Nat.mul_add,Nat.mul_one]at h1;omega
   have lN:bits BinOp.or IntKind.u32 (y:Int) (lo:Int)=(z:Int):=by
    rw[u32_or_nat y lo (by omega) (by omega)];obtain⟨k,hk,_⟩:=qed;have := Nat.two_pow_add_eq_or_of_lt (i:=n) (b:=y) (by rw[Ko.out];exact zg8) k;rw[Ko.out,<- hk]at this;rw[Nat.or_comm,<- this,<- R6,Nat.add_comm]
   have qzd:hh<P:=by
    rw[<- qnd,<- hD];refine Nat.div_lt_of_lt_mul ?_;refine Nat.mul_lt_mul_of_lt_of_le Ib (Ab _) (by omega)
   have Kw:IntKind.u64.wrap (x:Int)=x:=Cg (by unfold Ag at Ib;omega);have Gs:IntKind.u64.wrap (D:Int)=D:=Cg (by omega)
   have gV:IntKind.u32.wrap (D:Int)=lo:=by simp[IntKind.wrap,IntKind.bits,IntKind.signed];omega
   have jal:(D:Int)/4294967296=(hh:Int):=by omega
   have eR:IntKind.u32.wrap (hh:Int)=hh:=Ze (by omega);have u6:IntKind.i64.wrap ((i:Int)+1)=(i:Int)+1:=Su (by omega) (by omega);have e1:wo.cell? ⟨T,i,none⟩=some (.int .u32 (y:Int)):=Lr.out.at hy;have f1:wo.frozen? ⟨T,i,none⟩=false:=Lr.out.free i;obtain⟨W2,Ax⟩:∃ W,wo.setCell ⟨T,i,none⟩ (.int .u32 (z:Int))=W:=⟨_,rfl⟩
   have Dw:Ed W2 T (X.set i z):=by rw[<- Ax];exact Lr.out.set i z
   have Ai:Below T w W2:=by rw[<- Ax];exact La.out.setCell (p:=⟨T,i,none⟩) (Ab _) _
   have Az:W2.heap.size=T+1:=by rw[<- Ax];simp[World.setCell];exact Pf.out
   have Vb:(X.set i z)[i+1]?=some 0:=by rw[List.getElem?_set_ne (by omega)];exact hz
   have e2:W2.cell? ⟨T,i+1,none⟩=some (.int .u32 ((0:Nat):Int)):=Dw.at Vb;have f2:W2.frozen? ⟨T,i+1,none⟩=false:=Dw.free (i+1)
   have aD:bv Ag ((X.set i z).set (i+1) hh)=bv Ag (la.take (i+1))*P:=by
    have h1:=zY (b:=Ag) (y:=z) hy;have h2:=zY (b:=Ag) (y:=hh) Vb;have h3:=Mi.out;rw[Nat.mul_zero,Nat.add_zero]at h2;rw[h2,Vd hx,Nat.add_mul,<- h3,Nat.mul_assoc,hD,Nat.pow_succ,Nat.mul_assoc]
    have h4:Ag^i*z=Ag^i*y+Ag^i*lo:=by rw[<- R6,Nat.mul_add]
    have h5:Ag^i*D=Ag^i*lo+Ag^i*(Ag*hh):=by
     rw[<- Nat.mul_add];congr 1;unfold Ag;omega
    omega
   have uE:=Aa aD;have qfu:=Aa (Dw.set (i+1) hh);have Do:=Aa (Ai.setCell (p:=⟨T,i+1,none⟩) (Ab _) (.int .u32 (hh:Int)));have qoq:Hid ((W2.setCell ⟨T,i+1,none⟩ (.int .u32 (hh:Int))).heap.size=T+1):=Aa (by simp[World.setCell];exact Az);have qej:Hid (((X.set i z).set (i+1) hh).length=m):=Aa (by rw[List.length_set,List.length_set];exact Co.out);have qJ:Hid (∀ d∈(X.set i z).set (i+1) hh,d<Ag):=Aa (Un (Un Ia.out uU) (show hh<Ag by unfold Ag;omega));have O6:Hid (((X.set i z).set (i+1) hh)[i+1]?.getD 0<P):=Aa (by rw[List.getElem?_set_self (by rw[List.length_set,Co.out];exact P6)];exact qzd)
   have G4:Hid (∀ k,i+1<k->k<m->((X.set i z).set (i+1) hh)[k]?=some 0):=Aa (fun k h1 h2=>by
    rw[List.getElem?_set_ne (by omega),List.getElem?_set_ne (by omega)]
    exact sV.out k (by omega) h2)
   have Im:=Aa Ax;clear G9 hx hy hz hD Kx qnd qed R6 aD Dw Ai Az Vb Ax
   go_upto_region 7 with fail
   rw[Im.out];clear e0 e1 f1;go_wp2_with fail
   exact⟨⟨i+1,(X.set i z).set (i+1) hh,by omega,by go_num,qej,qJ,O6,G4,uE,qfu,Do,qoq⟩,by simp[intOf];omega⟩
  ·obtain rfl:p=i:=by omega
   have Gj:=Mi.out;rw[List.take_of_length_le (by rw[HP.out];exact Ab _)]at Gj;have HF:=Aa Gj;clear Gj;go_wp2_with fail
   go_ret
   exact⟨X,rfl,Lr.out,Co.out,Ia.out,HF.out,La.out,Pf.out⟩
theorem qo5 {M S LA LB x y b u v a c d b':Nat} (h:S+v*LB+M*x=u*LA+M*(y+b)) (hd:d+(y+v*c)%Ag+b=(x+u*a)%Ag+Ag*b') :
  (S+M*d)+v*(LB+M*c)+M*Ag*((x+u*a)/Ag)=u*(LA+M*a)+M*Ag*((y+v*c)/Ag+b'):=by
 have h1:=Nat.mod_add_div (x+u*a) Ag;have h2:=Nat.mod_add_div (y+v*c) Ag;obtain⟨X,hX⟩:=Ae ((x+u*a)/Ag);obtain⟨Y,hY⟩:=Ae ((y+v*c)/Ag);obtain⟨lx,Mg⟩:∃ z,(x+u*a)%Ag=z:=⟨_,rfl⟩;obtain⟨ly,Lo⟩:∃ z,(y+v*c)%Ag=z:=⟨_,rfl⟩;rw[hX,Mg]at h1;rw[hY,Lo]at h2;rw[Mg,Lo]at hd;rw[hX,hY]
 have e1:v*(LB+M*c)=v*LB+M*(v*c):=by rw[Nat.mul_add,Nat.mul_left_comm]
 have e2:u*(LA+M*a)=u*LA+M*(u*a):=by rw[Nat.mul_add,Nat.mul_left_comm]
 have e3:M*Ag*X=M*(Ag*X):=Nat.mul_assoc _ _ _
 have e4:M*Ag*(Y+b')=M*(Ag*Y)+M*(Ag*b'):=by rw[Nat.mul_assoc,Nat.mul_add,Nat.mul_add]
 rw[e1,e2,e3,e4]
 have k1:M*lx+M*(Ag*X)=M*x+M*(u*a):=by rw[<- Nat.mul_add,<- Nat.mul_add,h1]
 have k2:M*ly+M*(Ag*Y)=M*y+M*(v*c):=by rw[<- Nat.mul_add,<- Nat.mul_add,h2]
 have k3:M*d+M*ly+M*b=M*lx+M*(Ag*b'):=by rw[<- Nat.mul_add,<- Nat.mul_add,<- Nat.mul_add,hd]
 rw[Nat.mul_add]at h;omega
theorem xI {x u a:Nat} (hx:x<Ag) (hu:u<Ag) (ha:a<Ag):x+u*a<18446744073709551616/\(x+u*a)/Ag<Ag:=by
 have h1:u*a<=4294967295*4294967295:=Nat.mul_le_mul (by unfold Ag at hu;omega) (by unfold Ag at ha;omega);unfold Ag at *;omega
theorem zfc (K:Nat) (a c:Value) (m n u v:Nat) (w:World) (la lb:List Nat) (Bh:Ws K w a la) (tla:Hr la) (Jw:bv Ag la=m) (Dh:Ws K w c lb) (tlb:Hr lb) (Ms:bv Ag lb=n) (hK:K<=w.heap.size) (mD:u<Ag) (Xn:v<Ag) (Bt:v*n<=u*m) (Qd:m<Ag^536870912) (A3:n<Ag^536870912) (Mx:la.length<lb.length) :
  Calls Tryz.prog 147 #[.int .u64 u,a,.int .u64 v,c] w fun e w'=>∃ v',e=.returned v'/\Bn w'.heap.size w' v' (u*m-v*n)/\Below w.heap.size w w'/\Bj w.heap.size v':=by
 have En:=Yg tla (by rw[Jw];exact Qd);have Nr:=Yg tlb (by rw[Ms];exact A3);obtain⟨ua,uc,rfl,Ew,Ha⟩:=Bh.form;obtain⟨va,vc,rfl,Bu,Bs⟩:=Dh.form;unfold maxLen at Ha Bs;have Dj:=Bh.cells;have Fx:=Dh.cells;obtain⟨p,hp⟩:=Ae la.length;obtain⟨q,hq⟩:=Ae lb.length;rw[hp]at Ew En Mx ⊢;rw[hq]at Bu Nr Mx ⊢;obtain⟨T,hT⟩:=Ae w.heap.size;rw[hT]at hK ⊢;obtain⟨mx,qA⟩:∃ x,max p q=x:=⟨_,rfl⟩
 have zt7:max (p:Int) (q:Int)=(mx:Int):=by omega
 have zfr:(if(p:Int)<(q:Int)then(q:Int)else(p:Int))=(mx:Int):=by split<;>omega
 have zpa:(if(q:Int)<(p:Int)then(p:Int)else(q:Int))=(mx:Int):=by split<;>omega
 obtain⟨r,hr⟩:=Ae (mx+1)
 have mT:(mx:Int)+1=(r:Int):=by omega
 have zju:(q:Int)+1=(r:Int):=by omega
 have pR:r<=2^38:=by omega
 have Fs:=fC r pR w;rw[hT]at Fs;obtain⟨W1,Ah⟩:∃ W,w.alloc (.cells (Fa (List.replicate r 0)) 172)=W:=⟨_,rfl⟩
 have b1:Below T w W1:=by rw[<- Ah,<- hT];exact Af _ _
 have q1:Ed W1 T (List.replicate r 0):=by
  have:Blk W1 T (Fa (List.replicate r 0)) 172:=by rw[<- Ah,<- hT];exact Blk.new w _ _
  exact mF this
 obtain⟨N,hN⟩:=Ae (u*m-v*n);rw[hN];have HN:=Aa hN;have T6:=Aa Bt;have Hy:=Aa Jw;have Mu:=Aa Ms;have HP:=Aa hp;have HQ:=Aa hq;have HT:=Aa hT;have fK:=Aa qA;have HR:=Aa hr;have Gm:=Aa Dj;have Oe:=Aa Fx;have Dk:=Aa Ah;have Bi:=Aa b1;have Bc:=Aa q1;clear Bh Dh tla tlb Jw Ms hp hq hT qA hr Dj Fx Ah b1 q1 hN Bt Qd A3;go_enter Tryz.func147,Tryz.ntmps147
 go_upto_region 2 with fail
 try simp only[HT.out]
 rw[Dk.out];go_wp2_with fail
 go_loopw [10,11,12,23] (fun xv yv bb iv wr=>∃ (i x y b:Nat) (X:List Nat),i<=r/\xv=.int .u64 x/\yv=.int .u64 y/\bb=.int .u32 b/\iv=.int .i64 i/\x<Ag/\y<Ag/\b<=1/\Hid (X.length=r)/\Hid (∀ d∈X,d<Ag)/\Hid (p<i->x=0)/\Hid (q<i->y=0)/\Hid (bv Ag (X.take i)+v*bv Ag (lb.take i)+Ag^i*x=u*bv Ag (la.take i)+Ag^i*(y+b))/\Hid (Ed wr T X)/\Hid (Below T w wr)) (fun _ _ _ iv _=>r-(intOf iv).toNat)
 case atStart=>exact⟨0,0,0,0,List.replicate r 0,Nat.zero_le _,rfl,rfl,rfl,rfl,by decide,by decide,by omega,Aa (by simp),Aa (fun d hd=>by rw[List.eq_of_mem_replicate hd];decide),Aa (fun _=>rfl),Aa (fun _=>rfl),Aa (by simp[bv]),Bc,Bi⟩
 case round =>
  obtain⟨i,x,y,b,X,hi,rfl,rfl,rfl,rfl,Ib,Ps,Bp,Co,Ia,qep,cB,Mi,Lr,La⟩:=hrel;obtain⟨wo,rfl⟩:∃ wo:World,wo=wr:=⟨_,rfl⟩
  by_cases Aj:i<r
  ·obtain⟨old,ho⟩:∃ o,X[i]?=some o:=⟨_,Ac (by rw[Co.out];exact Aj)⟩
   have e1:wo.cell? ⟨T,i,none⟩=some (.int .u32 (old:Int)):=Lr.out.at ho;have f1:wo.frozen? ⟨T,i,none⟩=false:=Lr.out.free i;obtain⟨a,ha⟩:=Ae (la[i]?.getD 0);obtain⟨c,hc⟩:=Ae (lb[i]?.getD 0)
   have oL:a<Ag:=by
    rw[<- ha]
    cases h:la[i]? with
    | none=>decide
    | some d=>obtain⟨_,_,_,_,_,h6⟩:=Gm.out i d h;exact h6
   have Zs:c<Ag:=by
    rw[<- hc]
    cases h:lb[i]? with
    | none=>decide
    | some d=>obtain⟨_,_,_,_,_,h6⟩:=Oe.out i d h;exact h6
   obtain⟨fE,Lf⟩:=xI Ib mD oL;obtain⟨uW,Tb⟩:=xI Ps Xn Zs;obtain⟨P,hP⟩:=Ae (u*a);obtain⟨R,hR⟩:=Ae (v*c)
   have oU:(u:Int)*(a:Int)=(P:Int):=by rw[<- hP];simp
   have zgr:(v:Int)*(c:Int)=(R:Int):=by rw[<- hR];simp
   obtain⟨x1,Ck⟩:∃ z,x+u*a=z:=⟨_,rfl⟩;obtain⟨y1,Ph⟩:∃ z,y+v*c=z:=⟨_,rfl⟩
   have qlo:(x:Int)+(P:Int)=(x1:Int):=by omega
   have qak:(y:Int)+(R:Int)=(y1:Int):=by omega
   rw[Ck]at fE Lf;rw[Ph]at uW Tb;obtain⟨lx,Mg⟩:∃ z,x1%Ag=z:=⟨_,rfl⟩;obtain⟨ly,Lo⟩:∃ z,y1%Ag=z:=⟨_,rfl⟩;obtain⟨xn,I1⟩:∃ z,x1/Ag=z:=⟨_,rfl⟩;obtain⟨yn,G0⟩:∃ z,y1/Ag=z:=⟨_,rfl⟩;rw[I1]at Lf;rw[G0]at Tb
   have qiv:lx<Ag:=by rw[<- Mg];exact Nat.mod_lt _ (by decide)
   have qju:ly<Ag:=by rw[<- Lo];exact Nat.mod_lt _ (by decide)
   have qD:IntKind.u32.wrap (x1:Int)=(lx:Int):=by unfold Ag at Mg;simp[IntKind.wrap,IntKind.bits,IntKind.signed];omega
   have jK:IntKind.u32.wrap (y1:Int)=(ly:Int):=by unfold Ag at Lo;simp[IntKind.wrap,IntKind.bits,IntKind.signed];omega
   have zdp:(x1:Int)/4294967296=(xn:Int):=by unfold Ag at I1;omega
   have qvq:(y1:Int)/4294967296=(yn:Int):=by unfold Ag at G0;omega
   have Kw:IntKind.u64.wrap (P:Int)=P:=Cg (by omega);have Gs:IntKind.u64.wrap (R:Int)=R:=Cg (by omega);have gV:IntKind.u64.wrap (x1:Int)=x1:=Cg fE;have xZ:IntKind.u64.wrap (y1:Int)=y1:=Cg uW;have eR:IntKind.u64.wrap (a:Int)=a:=Cg (by unfold Ag at oL;omega);have u6:IntKind.u64.wrap (c:Int)=c:=Cg (by unfold Ag at Zs;omega);have hs:=j7 lx ly b qiv qju Bp wo;have HS:=Aa hs
   have Ka:Hid (∀ d b':Nat,d<Ag->d+ly+b=lx+Ag*b'->(X.set i d).length=r/\(∀ e∈X.set i d,e<Ag)/\(p<i+1->xn=0)/\(q<i+1->yn=0)/\(bv Ag ((X.set i d).take (i+1))+v*bv Ag (lb.take (i+1))+Ag^(i+1)*xn=u*bv Ag (la.take (i+1))+Ag^(i+1)*(yn+b'))/\Ed (wo.setCell ⟨T,i,none⟩ (.int .u32 (d:Int))) T (X.set i d)/\Below T w (wo.setCell ⟨T,i,none⟩ (.int .u32 (d:Int)))):=Aa fun d b' hd Je=>by
    have h0:=qo5 (M:=Ag^i) (d:=d) (b':=b') (a:=a) (c:=c) Mi.out (by rw[Ck,Ph,Mg,Lo];exact Je);rw[Ck,Ph,I1,G0]at h0;refine⟨by rw[List.length_set];exact Co.out,Un Ia.out hd,fun h=>?_,fun h=>?_,?_,Lr.out.set i d,La.out.setCell (p:=⟨T,i,none⟩) (Ab _) _⟩
    ·have vP:a=0:=by rw[<- ha,List.getElem?_eq_none (by rw[HP.out];omega)];rfl
     rw[<- I1,<- Ck,vP,Nat.mul_zero];exact Nat.div_eq_of_lt Ib
    ·have Iq:c=0:=by rw[<- hc,List.getElem?_eq_none (by rw[HQ.out];omega)];rfl
     rw[<- G0,<- Ph,Iq,Nat.mul_zero];exact Nat.div_eq_of_lt Ps
    ·rw[uT (by rw[Co.out];exact Aj),A5,List.length_take,show min i X.length=i by rw[Co.out];omega,Wk,Wk,ha,hc,Nat.pow_succ]
     exact h0
   have HA:=Aa ha;have HC:=Aa hc;have Iw:=Aa Ck;have qag:=Aa Ph;have Ko:=Aa hP;have Ml:=Aa hR;clear ho ha hc Ck Ph hP hR Mg Lo I1 G0 hs
   by_cases Q7:i<p
   ·obtain⟨za,gB⟩:∃ z,la[i]?=some z:=⟨_,Ac (by rw[HP.out];exact Q7)⟩
    obtain⟨ba,oa,rfl,zwo,Dj,_⟩:=Gm.out i za gB
    have qi7:za=a:=by have := HA.out;rw[gB]at this;exact this
    subst qi7;have ea:wo.cell? ⟨ba,oa+i,none⟩=some (.int .u32 (za:Int)):=(La.out.cell (p:=⟨ba,oa+i,none⟩) (show ba<T by omega)).trans Dj;clear gB Dj
    by_cases Zl:i<q
    ·obtain⟨zc,I7⟩:∃ z,lb[i]?=some z:=⟨_,Ac (by rw[HQ.out];exact Zl)⟩
     obtain⟨bc,oc,rfl,Qi,Em,_⟩:=Oe.out i zc I7
     have Rz:zc=c:=by have := HC.out;rw[I7]at this;exact this
     subst Rz;have ec:wo.cell? ⟨bc,oc+i,none⟩=some (.int .u32 (zc:Int)):=(La.out.cell (p:=⟨bc,oc+i,none⟩) (show bc<T by omega)).trans Em;clear I7 Em;go_wp2_with fail
     refine HS.out.mono ?_;clear HS;rintro e w3 ⟨d,b',rfl,hd,Gl,Je,rfl⟩;obtain⟨h1,h2,h3,h4,h5,h6,h7⟩:=Ka.out d b' hd Je;have H1:=Aa h1;have H2:=Aa h2;have H3:=Aa h3;have H4:=Aa h4;have H5:=Aa h5;have H6:=Aa h6;have H7:=Aa h7;clear h1 h2 h3 h4 h5 h6 h7 Je;go_wp2_with fail
     exact⟨⟨i+1,xn,yn,b',X.set i d,by omega,rfl,rfl,rfl,by go_num,Lf,Tb,Gl,H1,H2,H3,H4,H5,H6,H7⟩,by simp[intOf];omega⟩
    ·exact absurd Mx (by omega)
   ·have vO:a=0:=by rw[<- HA.out,List.getElem?_eq_none (by rw[HP.out];omega)];rfl
    have X0:x1=x:=by rw[<- Iw.out,vO,Nat.mul_zero,Nat.add_zero]
    subst X0;clear vO qlo
    by_cases Zl:i<q
    ·obtain⟨zc,I7⟩:∃ z,lb[i]?=some z:=⟨_,Ac (by rw[HQ.out];exact Zl)⟩
     obtain⟨bc,oc,rfl,Qi,Em,_⟩:=Oe.out i zc I7
     have Rz:zc=c:=by have := HC.out;rw[I7]at this;exact this
     subst Rz;have ec:wo.cell? ⟨bc,oc+i,none⟩=some (.int .u32 (zc:Int)):=(La.out.cell (p:=⟨bc,oc+i,none⟩) (show bc<T by omega)).trans Em;clear I7 Em;go_wp2_with fail
     refine HS.out.mono ?_;clear HS;rintro e w3 ⟨d,b',rfl,hd,Gl,Je,rfl⟩;obtain⟨h1,h2,h3,h4,h5,h6,h7⟩:=Ka.out d b' hd Je;have H1:=Aa h1;have H2:=Aa h2;have H3:=Aa h3;have H4:=Aa h4;have H5:=Aa h5;have H6:=Aa h6;have H7:=Aa h7;clear h1 h2 h3 h4 h5 h6 h7 Je;go_wp2_with fail
     exact⟨⟨i+1,xn,yn,b',X.set i d,by omega,rfl,rfl,rfl,by go_num,Lf,Tb,Gl,H1,H2,H3,H4,H5,H6,H7⟩,by simp[intOf];omega⟩
    ·have dC:c=0:=by rw[<- HC.out,List.getElem?_eq_none (by rw[HQ.out];omega)];rfl
     have Cd:y1=y:=by rw[<- qag.out,dC,Nat.mul_zero,Nat.add_zero]
     subst Cd;clear dC qak;go_wp2_with fail
     refine HS.out.mono ?_;clear HS;rintro e w3 ⟨d,b',rfl,hd,Gl,Je,rfl⟩;obtain⟨h1,h2,h3,h4,h5,h6,h7⟩:=Ka.out d b' hd Je;have H1:=Aa h1;have H2:=Aa h2;have H3:=Aa h3;have H4:=Aa h4;have H5:=Aa h5;have H6:=Aa h6;have H7:=Aa h7;clear h1 h2 h3 h4 h5 h6 h7 Je;go_wp2_with fail
     exact⟨⟨i+1,xn,yn,b',X.set i d,by omega,rfl,rfl,rfl,by go_num,Lf,Tb,Gl,H1,H2,H3,H4,H5,H6,H7⟩,by simp[intOf];omega⟩
  ·obtain rfl:r=i:=by omega
   have F5:=qep.out (by have := fK.out;have := HR.out;omega);have Vt:=cB.out (by have := fK.out;have := HR.out;omega);subst F5;subst Vt
   have L7:bv Ag X=N:=by
    have h0:=Mi.out;have hm:=fK.out;have hr:=HR.out;rw[List.take_of_length_le (l:=X) (by rw[Co.out];exact Ab _),List.take_of_length_le (l:=lb) (by rw[HQ.out];omega),List.take_of_length_le (l:=la) (by rw[HP.out];omega),Hy.out,Mu.out,Nat.mul_zero]at h0;have h1:=Nd X Ia.out;rw[Co.out]at h1;have h2:=T6.out
    have Ov:b=0:=by
     rcases Nat.eq_zero_or_pos b with h | h
     ·exact h
     ·obtain rfl:b=1:=by omega
      rw[Nat.zero_add,Nat.mul_one]at h0;omega
    subst Ov;rw[<- HN.out];simp only[Nat.add_zero,Nat.mul_zero]at h0;omega
   have Ki:=Lr.out.ws (K:=wo.heap.size) (c:=r) Lr.out.lt (by rw[Co.out];exact Ab _) (by unfold maxLen;omega) Ia.out;have ht:=Yr wo.heap.size _ X wo Ki;rw[Co.out,L7]at ht;have K9:=Aa ht;clear Ki ht L7;go_wp2_with fail
   refine K9.out.mono ?_;clear K9;rintro e w9 ⟨a9,n9,c9,k9,he,rfl,Fw,rfl⟩;simp only[Value.slice.injEq]at he;obtain⟨rfl,rfl,rfl⟩:=he;have Js:=Aa Fw;clear Fw;go_wp2_with fail
   go_ret
   exact⟨_,rfl,Js.out,La.out,Bj.at (Ab _)⟩
theorem zjw (K:Nat) (a c:Value) (m n u v:Nat) (w:World) (la lb:List Nat) (Bh:Ws K w a la) (tla:Hr la) (Jw:bv Ag la=m) (Dh:Ws K w c lb) (tlb:Hr lb) (Ms:bv Ag lb=n) (hK:K<=w.heap.size) (mD:u<Ag) (Xn:v<Ag) (Bt:v*n<=u*m) (Qd:m<Ag^536870912) (A3:n<Ag^536870912) (Mx:¬ la.length<lb.length) :
  Calls Tryz.prog 147 #[.int .u64 u,a,.int .u64 v,c] w fun e w'=>∃ v',e=.returned v'/\Bn w'.heap.size w' v' (u*m-v*n)/\Below w.heap.size w w'/\Bj w.heap.size v':=by
 have En:=Yg tla (by rw[Jw];exact Qd);have Nr:=Yg tlb (by rw[Ms];exact A3);obtain⟨ua,uc,rfl,Ew,Ha⟩:=Bh.form;obtain⟨va,vc,rfl,Bu,Bs⟩:=Dh.form;unfold maxLen at Ha Bs;have Dj:=Bh.cells;have Fx:=Dh.cells;obtain⟨p,hp⟩:=Ae la.length;obtain⟨q,hq⟩:=Ae lb.length;rw[hp]at Ew En Mx ⊢;rw[hq]at Bu Nr Mx ⊢;obtain⟨T,hT⟩:=Ae w.heap.size;rw[hT]at hK ⊢;obtain⟨mx,qA⟩:∃ x,max p q=x:=⟨_,rfl⟩
 have zt7:max (p:Int) (q:Int)=(mx:Int):=by omega
 have zfr:(if(p:Int)<(q:Int)then(q:Int)else(p:Int))=(mx:Int):=by split<;>omega
 have zpa:(if(q:Int)<(p:Int)then(p:Int)else(q:Int))=(mx:Int):=by split<;>omega
 obtain⟨r,hr⟩:=Ae (mx+1)
 have mT:(mx:Int)+1=(r:Int):=by omega
 have zju:(p:Int)+1=(r:Int):=by omega
 have pR:r<=2^38:=by omega
 have Fs:=fC r pR w;rw[hT]at Fs;obtain⟨W1,Ah⟩:∃ W,w.alloc (.cells (Fa (List.replicate r 0)) 172)=W:=⟨_,rfl⟩
 have b1:Below T w W1:=by rw[<- Ah,<- hT];exact Af _ _
 have q1:Ed W1 T (List.replicate r 0):=by
  have:Blk W1 T (Fa (List.replicate r 0)) 172:=by rw[<- Ah,<- hT];exact Blk.new w _ _
  exact mF this
 obtain⟨N,hN⟩:=Ae (u*m-v*n);rw[hN];have HN:=Aa hN;have T6:=Aa Bt;have Hy:=Aa Jw;have Mu:=Aa Ms;have HP:=Aa hp;have HQ:=Aa hq;have HT:=Aa hT;have fK:=Aa qA;have HR:=Aa hr;have Gm:=Aa Dj;have Oe:=Aa Fx;have Dk:=Aa Ah;have Bi:=Aa b1;have Bc:=Aa q1;clear Bh Dh tla tlb Jw Ms hp hq hT qA hr Dj Fx Ah b1 q1 hN Bt Qd A3;go_enter Tryz.func147,Tryz.ntmps147
 go_upto_region 2 with fail
 try simp only[HT.out]
 rw[Dk.out];go_wp2_with fail
 go_loopw [10,11,12,23] (fun xv yv bb iv wr=>∃ (i x y b:Nat) (X:List Nat),i<=r/\xv=.int .u64 x/\yv=.int .u64 y/\bb=.int .u32 b/\iv=.int .i64 i/\x<Ag/\y<Ag/\b<=1/\Hid (X.length=r)/\Hid (∀ d∈X,d<Ag)/\Hid (p<i->x=0)/\Hid (q<i->y=0)/\Hid (bv Ag (X.take i)+v*bv Ag (lb.take i)+Ag^i*x=u*bv Ag (la.take i)+Ag^i*(y+b))/\Hid (Ed wr T X)/\Hid (Below T w wr)) (fun _ _ _ iv _=>r-(intOf iv).toNat)
 case atStart=>exact⟨0,0,0,0,List.replicate r 0,Nat.zero_le _,rfl,rfl,rfl,rfl,by decide,by decide,by omega,Aa (by simp),Aa (fun d hd=>by rw[List.eq_of_mem_replicate hd];decide),Aa (fun _=>rfl),Aa (fun _=>rfl),Aa (by simp[bv]),Bc,Bi⟩
 case round =>
  obtain⟨i,x,y,b,X,hi,rfl,rfl,rfl,rfl,Ib,Ps,Bp,Co,Ia,qep,cB,Mi,Lr,La⟩:=hrel;obtain⟨wo,rfl⟩:∃ wo:World,wo=wr:=⟨_,rfl⟩
  by_cases Aj:i<r
  ·obtain⟨old,ho⟩:∃ o,X[i]?=some o:=⟨_,Ac (by rw[Co.out];exact Aj)⟩
   have e1:wo.cell? ⟨T,i,none⟩=some (.int .u32 (old:Int)):=Lr.out.at ho;have f1:wo.frozen? ⟨T,i,none⟩=false:=Lr.out.free i;obtain⟨a,ha⟩:=Ae (la[i]?.getD 0);obtain⟨c,hc⟩:=Ae (lb[i]?.getD 0)
   have oL:a<Ag:=by
    rw[<- ha]
    cases h:la[i]? with
    | none=>decide
    | some d=>obtain⟨_,_,_,_,_,h6⟩:=Gm.out i d h;exact h6
   have Zs:c<Ag:=by
    rw[<- hc]
    cases h:lb[i]? with
    | none=>decide
    | some d=>obtain⟨_,_,_,_,_,h6⟩:=Oe.out i d h;exact h6
   obtain⟨fE,Lf⟩:=xI Ib mD oL;obtain⟨uW,Tb⟩:=xI Ps Xn Zs;obtain⟨P,hP⟩:=Ae (u*a);obtain⟨R,hR⟩:=Ae (v*c)
   have oU:(u:Int)*(a:Int)=(P:Int):=by rw[<- hP];simp
   have zgr:(v:Int)*(c:Int)=(R:Int):=by rw[<- hR];simp
   obtain⟨x1,Ck⟩:∃ z,x+u*a=z:=⟨_,rfl⟩;obtain⟨y1,Ph⟩:∃ z,y+v*c=z:=⟨_,rfl⟩
   have qlo:(x:Int)+(P:Int)=(x1:Int):=by omega
   have qak:(y:Int)+(R:Int)=(y1:Int):=by omega
   rw[Ck]at fE Lf;rw[Ph]at uW Tb;obtain⟨lx,Mg⟩:∃ z,x1%Ag=z:=⟨_,rfl⟩;obtain⟨ly,Lo⟩:∃ z,y1%Ag=z:=⟨_,rfl⟩;obtain⟨xn,I1⟩:∃ z,x1/Ag=z:=⟨_,rfl⟩;obtain⟨yn,G0⟩:∃ z,y1/Ag=z:=⟨_,rfl⟩;rw[I1]at Lf;rw[G0]at Tb
   have qiv:lx<Ag:=by rw[<- Mg];exact Nat.mod_lt _ (by decide)
   have qju:ly<Ag:=by rw[<- Lo];exact Nat.mod_lt _ (by decide)
   have qD:IntKind.u32.wrap (x1:Int)=(lx:Int):=by unfold Ag at Mg;simp[IntKind.wrap,IntKind.bits,IntKind.signed];omega
   have jK:IntKind.u32.wrap (y1:Int)=(ly:Int):=by unfold Ag at Lo;simp[IntKind.wrap,IntKind.bits,IntKind.signed];omega
   have zdp:(x1:Int)/4294967296=(xn:Int):=by unfold Ag at I1;omega
   have qvq:(y1:Int)/4294967296=(yn:Int):=by unfold Ag at G0;omega
   have Kw:IntKind.u64.wrap (P:Int)=P:=Cg (by omega);have Gs:IntKind.u64.wrap (R:Int)=R:=Cg (by omega);have gV:IntKind.u64.wrap (x1:Int)=x1:=Cg fE;have xZ:IntKind.u64.wrap (y1:Int)=y1:=Cg uW;have eR:IntKind.u64.wrap (a:Int)=a:=Cg (by unfold Ag at oL;omega);have u6:IntKind.u64.wrap (c:Int)=c:=Cg (by unfold Ag at Zs;omega);have hs:=j7 lx ly b qiv qju Bp wo;have HS:=Aa hs
   have Ka:Hid (∀ d b':Nat,d<Ag->d+ly+b=lx+Ag*b'->(X.set i d).length=r/\(∀ e∈X.set i d,e<Ag)/\(p<i+1->xn=0)/\(q<i+1->yn=0)/\(bv Ag ((X.set i d).take (i+1))+v*bv Ag (lb.take (i+1))+Ag^(i+1)*xn=u*bv Ag (la.take (i+1))+Ag^(i+1)*(yn+b'))/\Ed (wo.setCell ⟨T,i,none⟩ (.int .u32 (d:Int))) T (X.set i d)/\Below T w (wo.setCell ⟨T,i,none⟩ (.int .u32 (d:Int)))):=Aa fun d b' hd Je=>by
    have h0:=qo5 (M:=Ag^i) (d:=d) (b':=b') (a:=a) (c:=c) Mi.out (by rw[Ck,Ph,Mg,Lo];exact Je);rw[Ck,Ph,I1,G0]at h0;refine⟨by rw[List.length_set];exact Co.out,Un Ia.out hd,fun h=>?_,fun h=>?_,?_,Lr.out.set i d,La.out.setCell (p:=⟨T,i,none⟩) (Ab _) _⟩
    ·have vP:a=0:=by rw[<- ha,List.getElem?_eq_none (by rw[HP.out];omega)];rfl
     rw[<- I1,<- Ck,vP,Nat.mul_zero];exact Nat.div_eq_of_lt Ib
    ·have Iq:c=0:=by rw[<- hc,List.getElem?_eq_none (by rw[HQ.out];omega)];rfl
     rw[<- G0,<- Ph,Iq,Nat.mul_zero];exact Nat.div_eq_of_lt Ps
    ·rw[uT (by rw[Co.out];exact Aj),A5,List.length_take,show min i X.length=i by rw[Co.out];omega,Wk,Wk,ha,hc,Nat.pow_succ]
     exact h0
   have HA:=Aa ha;have HC:=Aa hc;have Iw:=Aa Ck;have qag:=Aa Ph;have Ko:=Aa hP;have Ml:=Aa hR;clear ho ha hc Ck Ph hP hR Mg Lo I1 G0 hs
   by_cases Q7:i<p
   ·obtain⟨za,gB⟩:∃ z,la[i]?=some z:=⟨_,Ac (by rw[HP.out];exact Q7)⟩
    obtain⟨ba,oa,rfl,zwo,Dj,_⟩:=Gm.out i za gB
    have qi7:za=a:=by have := HA.out;rw[gB]at this;exact this
    subst qi7;have ea:wo.cell? ⟨ba,oa+i,none⟩=some (.int .u32 (za:Int)):=(La.out.cell (p:=⟨ba,oa+i,none⟩) (show ba<T by omega)).trans Dj;clear gB Dj
    by_cases Zl:i<q
    ·obtain⟨zc,I7⟩:∃ z,lb[i]?=some z:=⟨_,Ac (by rw[HQ.out];exact Zl)⟩
     obtain⟨bc,oc,rfl,Qi,Em,_⟩:=Oe.out i zc I7
     have Rz:zc=c:=by have := HC.out;rw[I7]at this;exact this
     subst Rz;have ec:wo.cell? ⟨bc,oc+i,none⟩=some (.int .u32 (zc:Int)):=(La.out.cell (p:=⟨bc,oc+i,none⟩) (show bc<T by omega)).trans Em;clear I7 Em;go_wp2_with fail
     refine HS.out.mono ?_;clear HS;rintro e w3 ⟨d,b',rfl,hd,Gl,Je,rfl⟩;obtain⟨h1,h2,h3,h4,h5,h6,h7⟩:=Ka.out d b' hd Je;have H1:=Aa h1;have H2:=Aa h2;have H3:=Aa h3;have H4:=Aa h4;have H5:=Aa h5;have H6:=Aa h6;have H7:=Aa h7;clear h1 h2 h3 h4 h5 h6 h7 Je;go_wp2_with fail
     exact⟨⟨i+1,xn,yn,b',X.set i d,by omega,rfl,rfl,rfl,by go_num,Lf,Tb,Gl,H1,H2,H3,H4,H5,H6,H7⟩,by simp[intOf];omega⟩
    ·have dC:c=0:=by rw[<- HC.out,List.getElem?_eq_none (by rw[HQ.out];omega)];rfl
     have Cd:y1=y:=by rw[<- qag.out,dC,Nat.mul_zero,Nat.add_zero]
     subst Cd;clear dC qak;go_wp2_with fail
     refine HS.out.mono ?_;clear HS;rintro e w3 ⟨d,b',rfl,hd,Gl,Je,rfl⟩;obtain⟨h1,h2,h3,h4,h5,h6,h7⟩:=Ka.out d b' hd Je;have H1:=Aa h1;have H2:=Aa h2;have H3:=Aa h3;have H4:=Aa h4;have H5:=Aa h5;have H6:=Aa h6;have H7:=Aa h7;clear h1 h2 h3 h4 h5 h6 h7 Je;go_wp2_with fail
     exact⟨⟨i+1,xn,yn,b',X.set i d,by omega,rfl,rfl,rfl,by go_num,Lf,Tb,Gl,H1,H2,H3,H4,H5,H6,H7⟩,by simp[intOf];omega⟩
   ·have vO:a=0:=by rw[<- HA.out,List.getElem?_eq_none (by rw[HP.out];omega)];rfl
    have X0:x1=x:=by rw[<- Iw.out,vO,Nat.mul_zero,Nat.add_zero]
    subst X0;clear vO qlo
    by_cases Zl:i<q
    ·exact absurd Mx (by omega)
    ·have dC:c=0:=by rw[<- HC.out,List.getElem?_eq_none (by rw[HQ.out];omega)];rfl
     have Cd:y1=y:=by rw[<- qag.out,dC,Nat.mul_zero,Nat.add_zero]
     subst Cd;clear dC qak;go_wp2_with fail
     refine HS.out.mono ?_;clear HS;rintro e w3 ⟨d,b',rfl,hd,Gl,Je,rfl⟩;obtain⟨h1,h2,h3,h4,h5,h6,h7⟩:=Ka.out d b' hd Je;have H1:=Aa h1;have H2:=Aa h2;have H3:=Aa h3;have H4:=Aa h4;have H5:=Aa h5;have H6:=Aa h6;have H7:=Aa h7;clear h1 h2 h3 h4 h5 h6 h7 Je;go_wp2_with fail
     exact⟨⟨i+1,xn,yn,b',X.set i d,by omega,rfl,rfl,rfl,by go_num,Lf,Tb,Gl,H1,H2,H3,H4,H5,H6,H7⟩,by simp[intOf];omega⟩
  ·obtain rfl:r=i:=by omega
   have F5:=qep.out (by have := fK.out;have := HR.out;omega);have Vt:=cB.out (by have := fK.out;have := HR.out;omega);subst F5;subst Vt
   have L7:bv Ag X=N:=by
    have h0:=Mi.out;have hm:=fK.out;have hr:=HR.out;rw[List.take_of_length_le (l:=X) (by rw[Co.out];exact Ab _),List.take_of_length_le (l:=lb) (by rw[HQ.out];omega),List.take_of_length_le (l:=la) (by rw[HP.out];omega),Hy.out,Mu.out,Nat.mul_zero]at h0;have h1:=Nd X Ia.out;rw[Co.out]at h1;have h2:=T6.out
    have Ov:b=0:=by
     rcases Nat.eq_zero_or_pos b with h | h
     ·exact h
     ·obtain rfl:b=1:=by omega
      rw[Nat.zero_add,Nat.mul_one]at h0;omega
    subst Ov;rw[<- HN.out];simp only[Nat.add_zero,Nat.mul_zero]at h0;omega
   have Ki:=Lr.out.ws (K:=wo.heap.size) (c:=r) Lr.out.lt (by rw[Co.out];exact Ab _) (by unfold maxLen;omega) Ia.out;have ht:=Yr wo.heap.size _ X wo Ki;rw[Co.out,L7]at ht;have K9:=Aa ht;clear Ki ht L7;go_wp2_with fail
   refine K9.out.mono ?_;clear K9;rintro e w9 ⟨a9,n9,c9,k9,he,rfl,Fw,rfl⟩;simp only[Value.slice.injEq]at he;obtain⟨rfl,rfl,rfl⟩:=he;have Js:=Aa Fw;clear Fw;go_wp2_with fail
   go_ret
   exact⟨_,rfl,Js.out,La.out,Bj.at (Ab _)⟩
theorem wU (K:Nat) (a c:Value) (m n u v:Nat) (w:World) (ha:Bn K w a m) (hc:Bn K w c n) (hK:K<=w.heap.size) (mD:u<Ag) (Xn:v<Ag) (Bt:v*n<=u*m) (Qd:m<Ag^536870912) (A3:n<Ag^536870912) :
  Calls Tryz.prog 147 #[.int .u64 u,a,.int .u64 v,c] w fun e w'=>∃ v',e=.returned v'/\Bn w'.heap.size w' v' (u*m-v*n)/\Below w.heap.size w w'/\Bj w.heap.size v':=by
 obtain⟨la,Bh,tla,Jw⟩:=ha;obtain⟨lb,Dh,tlb,Ms⟩:=hc
 by_cases h:la.length<lb.length
 ·exact zfc K a c m n u v w la lb Bh tla Jw Dh tlb Ms hK mD Xn Bt Qd A3 h
 ·exact zjw K a c m n u v w la lb Bh tla Jw Dh tlb Ms hK mD Xn Bt Qd A3 h
end Go.Proofs.YtlldjmagbjjeoaaGreatDoor
