/- Contracts and plain laws, several texts in one (GSmpS, GSmpL, DlFits). No conditions beyond those stated. -/
import Derived.Test.YtlldjmagbjjeoaaGreatDoorPk36
import Derived.Test.YtlldjmagbjjeoaaGreatDoorPk43
set_option maxRecDepth 100000
set_option maxHeartbeats 40000000
namespace Go.Proofs.YtlldjmagbjjeoaaGreatDoor
open Go.RowKit
set_option linter.unusedVariables false
def Qw (v:Vq) (k:Int):Vq :=
 Td v.kd (Ho (sgz v.g1 (As v.l1)*((1:Nat):Int)+k*((As v.l2:Nat):Int)) (As v.l2*1)) (Ic (sgz v.g1 (As v.l1)*((1:Nat):Int)+k*((As v.l2:Nat):Int)) (As v.l2*1))
def kQ (a b:Vq):Int:=Ho (sgz a.g1 (As a.l1)*((As b.l2:Nat):Int)+sgz b.g1 (As b.l1)*((As a.l2:Nat):Int)) (As a.l2*As b.l2)
def mI (a b:Vq):Nat:=Ic (sgz a.g1 (As a.l1)*((As b.l2:Nat):Int)+sgz b.g1 (As b.l1)*((As a.l2:Nat):Int)) (As a.l2*As b.l2)
def Wn (a b:Vq):Vq:=Td a.kd (Ho (kQ a b*((1:Nat):Int)) (mI a b*(2:Int).natAbs)) (Ic (kQ a b*((1:Nat):Int)) (mI a b*(2:Int).natAbs))
def Jg (s:Sc) (c:Nat):Vq :=
 if s.kd=0 then Pd 1 c
 else if Ky s.kd=true then tU s c
 else if c%2=1 then s.cuts[c/2]?.getD v0
 else if c/2=0 then Qw (s.cuts[0]?.getD v0) (-1)
 else if c/2=s.cuts.length then Qw (s.cuts[s.cuts.length-1]?.getD v0) 1
 else Wn (s.cuts[c/2-1]?.getD v0) (s.cuts[c/2]?.getD v0)
def Vq.dig (v:Vq):Prop:=(∀ d∈v.l1,d<65536)/\∀ d∈v.l2,d<65536
def Vq.lim (v:Vq) (k:Nat):Prop:=v.l1.length<=k/\v.l2.length<=k
theorem Vq.lim.lb {v:Vq} {k:Nat} (h:v.lim k) (hd:v.dig):As v.l1<LB k/\As v.l2<LB k:=by
 constructor
 ·rw[cN];exact Nat.lt_of_lt_of_le (Nd v.l1 hd.1) (cP h.1)
 ·rw[cN];exact Nat.lt_of_lt_of_le (Nd v.l2 hd.2) (cP h.2)
theorem qL {y:Int} {d:Nat} (hd:0<d) (a:Int) (b:Nat):(Ho y d*b<a*Ic y d ↔ y*b<a*d)/\(a*Ic y d<Ho y d*b ↔ a*d<y*b):=by
 have hG:=qky y hd;have h1:=tT y d
 have h2:(d:Int)=(Ic y d:Int)*(Nat.gcd y.natAbs d:Nat):=by
  have := congrArg (fun n:Nat=>(n:Int)) (qbw y d)
  simpa using this
 obtain⟨G,zf0⟩:∃ G:Int,((Nat.gcd y.natAbs d:Nat):Int)=G:=⟨_,rfl⟩
 have Yz:0<G:=by omega
 rw[zf0]at h1 h2
 have e1:y*b=Ho y d*b*G:=by
  calc y*b=Ho y d*G*b:=by rw[<- h1]
   _=Ho y d*b*G:=by rw[Int.mul_assoc,Int.mul_comm G,<- Int.mul_assoc]
 have e2:a*d=a*Ic y d*G:=by rw[h2,Int.mul_assoc]
 rw[e1,e2];exact⟨⟨fun h=>Int.mul_lt_mul_of_pos_right h Yz,fun h=>Int.lt_of_mul_lt_mul_right h (Int.le_of_lt Yz)⟩,⟨fun h=>Int.mul_lt_mul_of_pos_right h Yz,fun h=>Int.lt_of_mul_lt_mul_right h (Int.le_of_lt Yz)⟩⟩
structure j8 (v:Vq):Prop where
 kd:v.kd=2\/v.kd=3
 ok:v.ok=true
 good:v.good=true
 dig:v.dig
theorem qtt {v:Vq} (h:j8 v) {m:Nat} (hm:v.lim m) (Qd:m<=60) (k:Int) (hk:k=1\/k = -1) :
  (Qw v k).ok=true/\(Qw v k).kd=v.kd/\(Qw v k).good=true/\(Qw v k).dig/\(k=1->vlt v (Qw v k))/\(k = -1->vlt (Qw v k) v):=by
 obtain⟨p1,p2,p3,p4,p5,p6⟩:=xB h.kd h.ok h.good;obtain⟨l1,l2⟩:=hm.lb h.dig;obtain⟨y,hy⟩:=Ae (sgz v.g1 (As v.l1)*((1:Nat):Int)+k*((As v.l2:Nat):Int));obtain⟨d,hd⟩:=Ae (As v.l2*1)
 have Gp:0<d:=by omega
 have Uf:y.natAbs<LB (m+1):=by
  have h1:y.natAbs<=As v.l1+As v.l2:=by
   have:(sgz v.g1 (As v.l1)).natAbs=As v.l1:=Ww _ _
   rcases hk with rfl | rfl<;>omega
  exact Nat.lt_of_le_of_lt h1 (sG l1 l2)
 have En:(Ho y d).natAbs<LB 64:=Bl (Nat.lt_of_le_of_lt (lS _ Gp) Uf) (by omega);have Nr:Ic y d<LB 64:=Bl (Nat.lt_of_le_of_lt (nL _ _) (by rw[<- hd,Nat.mul_one];exact l2)) (by omega)
 have e:Qw v k=Td v.kd (Ho y d) (Ic y d):=by unfold Qw;rw[hy,hd]
 rw[e];obtain⟨t1,t2⟩:=qo1 h.kd (Ho y d) (Ic y d);have Hv:=qL (y:=y) Gp (sgz v.g1 (As v.l1)) (As v.l2)
 have Kb:∀ a b c:Int,a*c<a*c+b*c ↔ 0<b*c:=fun a b c=>by omega
 have Ov:(0:Int)<(As v.l2:Nat):=by omega
 have lL:y*((As v.l2:Nat):Int)=sgz v.g1 (As v.l1)*(As v.l2:Nat)+k*(As v.l2:Nat)*(As v.l2:Nat):=by
  rw[<- hy,Int.add_mul];simp
 have zbk:(d:Int)=(As v.l2:Nat):=by omega
 have Qn:(0:Int)<(As v.l2:Nat)*(As v.l2:Nat):=Int.mul_pos Ov Ov;refine⟨qzt h.kd (pP y Gp) (yI y Gp) (Bl En (by decide)) (Bl Nr (by decide)),rfl,qvc En Nr,⟨kS _,kS _⟩,fun Sg=>?_,fun Sg=>?_⟩
 ·unfold vlt
  rw[t1,t2,p4,p5];refine Hv.2.2 ?_;rw[lL,Sg,zbk,Int.one_mul];omega
 ·unfold vlt
  rw[t1,t2,p4,p5];refine Hv.1.2 ?_;rw[lL,Sg,zbk]
  have:(-1:Int)*(As v.l2:Nat)*(As v.l2:Nat) = -((As v.l2:Nat)*(As v.l2:Nat)):=by rw[Int.mul_assoc];omega
  omega
theorem zc3 {p q r t y d:Int} (hq:0<q) (ht:0<t) (Aj:p*t<r*q) (hy:y=p*t+r*q) (hd:d=q*t):p*(d*2)<y*q/\y*t<r*(d*2):=by
 have h1:=Int.mul_lt_mul_of_pos_right Aj hq;have h2:=Int.mul_lt_mul_of_pos_right Aj ht;subst hy hd;constructor
 ·rw[Int.add_mul]
  have e0:p*(q*t*2)=p*t*q*2:=by ac_rfl
  have e1:p*(q*t*2)=p*t*q+p*t*q:=by rw[e0];omega
  omega
 ·rw[Int.add_mul]
  have e0:r*(q*t*2)=r*q*t*2:=by ac_rfl
  have e1:r*(q*t*2)=r*q*t+r*q*t:=by rw[e0];omega
  omega
theorem zv4 {a b:Vq} (ha:j8 a) (hb:j8 b) (hk:b.kd=a.kd) {m:Nat} (T9:a.lim m) (zel:b.lim m) (Qd:m<=30) (Aj:vlt a b) :
  (Wn a b).ok=true/\(Wn a b).kd=a.kd/\(Wn a b).good=true/\(Wn a b).dig/\vlt a (Wn a b)/\vlt (Wn a b) b:=by
 obtain⟨p1,p2,p3,p4,p5,p6⟩:=xB ha.kd ha.ok ha.good;obtain⟨r1,r2,r3,r4,r5,r6⟩:=xB hb.kd hb.ok hb.good;obtain⟨l1,l2⟩:=T9.lb ha.dig;obtain⟨l3,l4⟩:=zel.lb hb.dig;obtain⟨A,hA⟩:=Ae (sgz a.g1 (As a.l1));obtain⟨B,hB⟩:=Ae (sgz b.g1 (As b.l1));obtain⟨n,hn⟩:=Ae (As a.l2);obtain⟨q,hq⟩:=Ae (As b.l2)
 have zrq:A.natAbs=As a.l1:=by rw[<- hA];exact Ww _ _
 have zdj:B.natAbs=As b.l1:=by rw[<- hB];exact Ww _ _
 obtain⟨y,hy⟩:=Ae (A*(q:Int)+B*(n:Int));obtain⟨d,hd⟩:=Ae (n*q);rw[hn]at p3 p5 l2;rw[hq]at r3 r5 l4
 have Gp:0<d:=by rw[<- hd];exact Nat.mul_pos p3 r3
 have Uf:y.natAbs<LB (2*m+1):=by
  have h1:y.natAbs<=A.natAbs*q+B.natAbs*n:=by
   rw[<- hy];refine Nat.le_trans (Int.natAbs_add_le _ _) ?_;rw[Int.natAbs_mul,Int.natAbs_mul,Int.natAbs_natCast,Int.natAbs_natCast];exact Ab _
  rw[zrq,zdj]at h1;refine Nat.lt_of_le_of_lt h1 (sG ?_ ?_)
  ·have := Ts l1 l4;rwa[show m+m=2*m by omega]at this
  ·have := Ts l3 l2;rwa[show m+m=2*m by omega]at this
 have zl3:d<LB (2*m):=by have := Ts l2 l4;rw[hd,show m+m=2*m by omega]at this;exact this
 have eP:kQ a b=Ho y d:=by unfold kQ;rw[hA,hB,hn,hq,hy,hd]
 have eQ:mI a b=Ic y d:=by unfold mI;rw[hA,hB,hn,hq,hy,hd]
 obtain⟨P,hP⟩:=Ae (Ho y d);obtain⟨Q,hQ⟩:=Ae (Ic y d)
 have zzo:0<Q:=by rw[<- hQ];exact pP y Gp
 have L8:P.natAbs<LB (2*m+1):=by rw[<- hP];exact Nat.lt_of_le_of_lt (lS _ Gp) Uf
 have qlh:Q<LB (2*m):=by rw[<- hQ];exact Nat.lt_of_le_of_lt (nL _ _) zl3
 have e:Wn a b=Td a.kd (Ho P (Q*2)) (Ic P (Q*2)):=by
  unfold Wn;rw[eP,eQ,hP,hQ,show(2:Int).natAbs=2 from rfl,show P*((1:Nat):Int)=P by simp]
 have Nm:0<Q*2:=by omega
 have En:(Ho P (Q*2)).natAbs<LB 64:=Bl (Nat.lt_of_le_of_lt (lS _ Nm) L8) (by omega)
 have Nr:Ic P (Q*2)<LB 64:=by
  refine Nat.lt_of_le_of_lt (nL _ _) ?_
  have h1:Q*2<LB (2*m+1):=by
   have:LB (2*m+1)=LB (2*m)*65536:=Nat.pow_succ 65536 (2*m)
   omega
  exact Bl h1 (by omega)
 rw[e];obtain⟨t1,t2⟩:=qo1 ha.kd (Ho P (Q*2)) (Ic P (Q*2))
 have tI:A*q<B*n:=by
  unfold vlt at Aj;rw[p4,r4,p5,r5,hA,hB]at Aj;exact Aj
 have quq:=zc3 (p:=A) (q:=n) (r:=B) (t:=q) (y:=y) (d:=d) (by omega) (by omega) tI hy.symm (by rw[<- hd];simp);have k1:=(qL (y:=y) Gp A n);have k2:=(qL (y:=y) Gp B q);rw[hP,hQ]at k1 k2;have m1:=qL (y:=P) Nm A n;have m2:=qL (y:=P) Nm B q
 have s1:A*((Q*2:Nat):Int)<P*n:=by
  have hE:=qo9 y d;rw[hP,hQ]at hE;have h1:A*(d*2)*Q<y*n*Q:=Int.mul_lt_mul_of_pos_right quq.1 (by omega)
  have h2:y*n*Q=P*n*d:=by rw[Int.mul_assoc,Int.mul_comm (n:Int),<- Int.mul_assoc,<- hE,Int.mul_assoc,Int.mul_comm (d:Int),<- Int.mul_assoc]
  have h3:A*((d:Int)*2)*Q=A*((Q*2:Nat):Int)*d:=by
   rw[Int.natCast_mul]
   show A*((d:Int)*2)*Q=A*((Q:Int)*2)*d
   ac_rfl
  rw[h2,h3]at h1;exact Int.lt_of_mul_lt_mul_right h1 (by omega)
 have s2:P*q<B*((Q*2:Nat):Int):=by
  have hE:=qo9 y d;rw[hP,hQ]at hE;have h1:y*q*Q<B*(d*2)*Q:=Int.mul_lt_mul_of_pos_right quq.2 (by omega)
  have h2:y*q*Q=P*q*d:=by rw[Int.mul_assoc,Int.mul_comm (q:Int),<- Int.mul_assoc,<- hE,Int.mul_assoc,Int.mul_comm (d:Int),<- Int.mul_assoc]
  have h3:B*((d:Int)*2)*Q=B*((Q*2:Nat):Int)*d:=by
   rw[Int.natCast_mul]
   show B*((d:Int)*2)*Q=B*((Q:Int)*2)*d
   ac_rfl
  rw[h2,h3]at h1;exact Int.lt_of_mul_lt_mul_right h1 (by omega)
 refine⟨qzt ha.kd (pP P Nm) (yI P Nm) (Bl En (by decide)) (Bl Nr (by decide)),rfl,qvc En Nr,⟨kS _,kS _⟩,?_,?_⟩
 ·unfold vlt
  rw[t1,t2,p4,p5,hA];exact m1.2.2 s1
 ·unfold vlt
  rw[t1,t2,r4,r5,hB];exact m2.1.2 s2
theorem zH {a b:Vq} (h:vlt a b):vle b a=false/\vle a b=true:=by
 unfold vlt at h;unfold vle;constructor
 ·simp;exact h
 ·simp;omega
theorem zjx (a:Vq):veq a a=true:=by unfold veq;simp
theorem zos {a b:Vq} (h:vlt a b):veq b a=false/\veq a b=false:=by
 unfold vlt at h;unfold veq;constructor<;>simp<;>omega
theorem zR {kd:Int} {l:List Vq} (ho:Nq kd l) {v:Vq} (hv:v.ok=true) {i:Nat} (hi:i<=l.length) (Kx:0<i->vlt (l[i-1]?.getD v0) v) (Ny:i<l.length->vlt v (l[i]?.getD v0)):Eu l v=i/\fnd l v=false:=by
 have h1:∀ j,j<i->vlt (l[j]?.getD v0) v:=fun j hj=>by
  have hl:=Kx (by omega)
  by_cases he:j=i-1
  ·rw[he];exact hl
  ·refine qfz (b:=l[i-1]?.getD v0) (ho.at (by omega)).2.1 hv ?_ hl
   have := List.pairwise_iff_getElem.1 ho.inc j (i-1) (by omega) (by omega) (by omega);rw[Ac (by omega),Ac (by omega)];exact this
 have h2:∀ j,i<=j->j<l.length->vlt v (l[j]?.getD v0):=fun j hj Ot=>by
  have hl:=Ny (by omega)
  by_cases he:j=i
  ·rw[he];exact hl
  ·refine qfz (b:=l[i]?.getD v0) (ho.at (by omega)).2.1 (ho.at Ot).2.1 hl ?_
   have := List.pairwise_iff_getElem.1 ho.inc i j (by omega) (by omega) (by omega);rw[Ac (show i<l.length by omega),Ac Ot];exact this
 have hs:Eu l v=i:=qc0 hi (fun j hj=>by unfold Ud;rw[if_pos (by omega)];exact(zH (h1 j hj)).1) (fun j hj Ot=>by unfold Ud;rw[if_pos Ot];exact(zH (h2 j hj Ot)).2);refine⟨hs,?_⟩;unfold fnd;rw[hs]
 by_cases Cr:i<l.length
 ·rw[(zos (Ny Cr)).1,Bool.and_false]
 ·rw[decide_eq_false Cr,Bool.false_and]
theorem zc8 {kd:Int} {l:List Vq} (ho:Nq kd l) {i:Nat} (hi:i<l.length):Eu l (l[i]?.getD v0)=i/\fnd l (l[i]?.getD v0)=true:=by
 have zbb:∀ a b,a<b->b<l.length->vlt (l[a]?.getD v0) (l[b]?.getD v0):=fun a b qbo hb=>by
  have := List.pairwise_iff_getElem.1 ho.inc a b (by omega) hb qbo;rw[Ac (show a<l.length by omega),Ac hb];exact this
 have zph:vle (l[i]?.getD v0) (l[i]?.getD v0)=true:=by unfold vle;simp
 have hs:Eu l (l[i]?.getD v0)=i:=qc0 (by omega) (fun j hj=>by unfold Ud;rw[if_pos (by omega)];exact(zH (zbb j i hj hi)).1) (fun j hj Ot=>by
  unfold Ud;rw[if_pos Ot]
  by_cases he:j=i
  ·rw[he];exact zph
  ·exact(zH (zbb i j (by omega) Ot)).2)
 refine⟨hs,?_⟩;unfold fnd;rw[hs,decide_eq_true hi,zjx];rfl
theorem qqb {a b:Vq} (ha:a.fr=false) (hb:b.fr=false):vlt a b ↔ a.i<b.i:=by
 unfold vlt Vq.top Vq.bot;rw[ha,hb];simp
structure j4 (s:Sc) (m:Nat):Prop where
 ok:s.okB=true
 good:∀ c∈s.cuts,c.good=true
 dig:∀ c∈s.cuts,c.dig
 lim:∀ c∈s.cuts,c.lim m
theorem zk3 {s:Sc} {m:Nat} (h:j4 s m) (hd:Ky s.kd=true) {c:Nat} (hp:s.poss c=true) (Kh:c%2=0) :
  (Pd s.kd (Ra s c)).ok=true/\Eu s.cuts (Pd s.kd (Ra s c))=c/2/\fnd s.cuts (Pd s.kd (Ra s c))=false:=by
 obtain⟨Jk,Iy,On⟩:=y9 hd;have hn:=zlp h.ok hd;have ho:=rN h.ok h.good
 have Br:s.kd=4\/s.kd=5\/s.kd=6:=by unfold Ky at hd;simpa [or_assoc] using hd
 have qb1:∀ v:Vq,v.kd=s.kd->v.fr=false:=fun v hv=>by unfold Vq.fr;rw[hv];rcases Br with h | h | h<;>rw[h]<;>rfl
 have zD:(Pd s.kd (Ra s c)).fr=false:=qb1 _ rfl
 have Ox:c<2*s.cuts.length+1/\Tl s.kd s.cuts c=true:=by
  unfold Sc.poss Hd at hp;rw[if_neg (by simpa using On)]at hp;simp only[Bool.and_eq_true,decide_eq_true_eq]at hp;exact⟨by omega,hp.2⟩
 obtain⟨Ox,Pp⟩:=Ox
 have Vg:1<hiS s.kd s.cuts c-loS s.kd s.cuts c:=by
  unfold Tl at Pp;rw[hd]at Pp
  have:(c%2==1)=false:=by simp;omega
  rw[this]at Pp
  simpa using Pp
 have qf4:∀ j,j<s.cuts.length->(if s.kd=4 then 0<=(s.cuts[j]?.getD v0).i/\(s.cuts[j]?.getD v0).i<65536 else -1048576<=(s.cuts[j]?.getD v0).i/\(s.cuts[j]?.getD v0).i<=1048576):=fun j hj=>by
  obtain⟨_,k2,k3⟩:=ho.at hj;have := k2;unfold Vq.ok at this;rw[qb1 _ k3]at this
  rcases Br with e | e | e<;>rw[k3,e]at this<;>rw[e]<;>simp at this<;>simp<;>omega
 obtain⟨i,hi⟩:=Ae (c/2)
 have Rc:i<=s.cuts.length:=by omega
 obtain⟨I,hI⟩:=Ae (Ra s c)
 have Kx:0<i->(s.cuts[i-1]?.getD v0).i<I:=fun h0=>by
  rw[<- hI];unfold Ra;unfold hiS loS at Vg;rw[hi]at Vg ⊢;rw[if_neg (by omega)];rw[if_pos (show 0<c by omega)]at Vg
  by_cases hl:i=s.cuts.length
  ·rw[if_pos hl,hl];omega
  ·rw[if_neg hl]
   rw[if_pos (by omega)]at Vg;omega
 have Ny:i<s.cuts.length->I<(s.cuts[i]?.getD v0).i:=fun h0=>by
  rw[<- hI];unfold Ra;unfold hiS loS at Vg;rw[hi]at Vg ⊢
  by_cases hz:i=0
  ·subst hz;rw[if_pos rfl];omega
  ·rw[if_neg hz,if_neg (by omega)]
   rw[if_pos (show 0<c by omega),if_pos h0]at Vg;omega
 have qho:if s.kd=4 then 0<=I/\I<65536 else -1048576<=I/\I<=1048576:=by
  unfold hiS loS at Vg;rw[hi]at Vg
  by_cases hz:i=0
  ·have h1:=Ny (by omega)
   have h2:=qf4 0 (by omega)
   have h3:I=(s.cuts[0]?.getD v0).i+(-1):=by rw[<- hI];unfold Ra;rw[hi,if_pos hz]
   subst hz
   have Iq:¬ 0<c:=by omega
   rw[if_neg Iq,if_pos (show 0<s.cuts.length by omega)]at Vg
   by_cases h4:s.kd=4
   ·rw[if_pos h4]at Vg h2 ⊢;omega
   ·rw[if_neg h4]at Vg h2 ⊢;omega
  ·have h1:=Kx (by omega)
   have h2:=qf4 (i-1) (by omega)
   by_cases hl:i<s.cuts.length
   ·have h3:=Ny hl
    have h5:=qf4 i hl
    by_cases h4:s.kd=4
    ·rw[if_pos h4]at h2 h5 ⊢;omega
    ·rw[if_neg h4]at h2 h5 ⊢;omega
   ·have Bt:i=s.cuts.length:=by omega
    have h3:I=(s.cuts[s.cuts.length-1]?.getD v0).i+1:=by rw[<- hI];unfold Ra;rw[hi,if_neg hz,if_pos Bt]
    rw[Bt]at h1 h2;rw[if_pos (show 0<c by omega),if_neg (show ¬ i<s.cuts.length by omega),Bt]at Vg
    by_cases h4:s.kd=4
    ·rw[if_pos h4]at Vg h2 ⊢;omega
    ·rw[if_neg h4]at Vg h2 ⊢;omega
 rw[hI]at zD ⊢;rw[hi]
 have Ay:(Pd s.kd I).ok=true:=by
  unfold Vq.ok;rw[zD]
  rcases Br with e | e | e<;>rw[e]at qho<;>simp[Pd,e]at qho ⊢ <;> exact qho
 refine⟨Ay,zR ho Ay Rc (fun h0=>?_) (fun h0=>?_)⟩
 ·exact(qqb (qb1 _ (ho.at (by omega)).2.2) zD).2 (Kx h0)
 ·exact(qqb zD (qb1 _ (ho.at h0).2.2)).2 (Ny h0)
theorem zk6 {s:Sc} {m:Nat} (h:j4 s m) (hm:m<=30) {c:Nat} (hp:s.poss c=true):U6 s (Jg s c)=((c:Int),true)/\(Jg s c).good=true:=by
 unfold U6
 by_cases h0:s.kd=0
 ·have Ii:c<2:=by
   unfold Sc.poss Hd at hp;rw[if_pos h0]at hp;simp only[Bool.and_eq_true,decide_eq_true_eq]at hp;omega
  have hv:Jg s c=Pd 1 c:=by unfold Jg;rw[if_pos h0]
  have Ay:(Pd 1 c).ok=true:=by
   rcases c with _ | _ | c
   ·rfl
   ·rfl
   ·omega
  rw[hv,h.ok,Ay];simp[h0];exact⟨rfl,rfl⟩
 ·have ho:=rN h.ok h.good
  have e0:(s.kd==0)=false:=by simpa using h0
  have Ox:c<2*s.cuts.length+1:=by
   unfold Sc.poss Hd at hp;rw[if_neg h0]at hp;simp only[Bool.and_eq_true,decide_eq_true_eq]at hp;omega
  have Es:1<=s.cuts.length:=by
   have := h.ok;unfold Sc.okB at this;rw[if_neg h0]at this;simp only[Bool.and_eq_true,decide_eq_true_eq]at this;omega
  have fin:∀ v:Vq,v.ok=true->v.kd=s.kd->v.good=true->((c%2=1/\Eu s.cuts v=c/2/\fnd s.cuts v=true)\/(c%2=0/\Eu s.cuts v=c/2/\fnd s.cuts v=false)) →
    (if s.okB=false\/v.ok=false then((0:Int),false)else if s.kd=0 then(if v.kd=1 then(v.i,true)else(0,false))else if v.kd≠s.kd then(0,false)else if fnd s.cuts v=true then(2*(Eu s.cuts v:Int)+1,true)else(2*(Eu s.cuts v:Int),true))=((c:Int),true)/\v.good=true:=fun v h1 h2 h3 h4=>by
   refine⟨?_,h3⟩;rw[h.ok,h1,if_neg (by simp),if_neg h0,if_neg (by simp[h2])]
   rcases h4 with⟨a,b,d⟩ | ⟨a,b,d⟩
   ·rw[d,b,if_pos rfl];simp;omega
   ·rw[d,b];simp;omega
  by_cases Xa:c%2=1
  ·have Ij:c/2<s.cuts.length:=by omega
   have hv:Jg s c=s.cuts[c/2]?.getD v0:=by
    unfold Jg tU;rw[if_neg h0,if_pos Xa]
    split<;>rfl
   obtain⟨k1,k2,k3⟩:=ho.at Ij;obtain⟨k4,k5⟩:=zc8 ho Ij;rw[hv];exact fin _ k2 k3 k1 (.inl ⟨Xa,k4,k5⟩)
  ·by_cases hd:Ky s.kd=true
   ·have hv:Jg s c=Pd s.kd (Ra s c):=by unfold Jg tU;rw[if_neg h0,if_pos hd,if_neg Xa]
    obtain⟨k1,k2,k3⟩:=zk3 h hd hp (by omega);rw[hv];exact fin _ k1 rfl rfl (.inr ⟨by omega,k2,k3⟩)
   ·have Br:s.kd=2\/s.kd=3:=by
     have h1:=h.ok;unfold Sc.okB at h1;rw[if_neg h0]at h1;simp only[Bool.and_eq_true,decide_eq_true_eq]at h1
     have h2:¬ (s.kd=4\/s.kd=5\/s.kd=6):=fun e=>hd (by unfold Ky;simpa [or_assoc] using e)
     omega
    have zU:∀ j,j<s.cuts.length->j8 (s.cuts[j]?.getD v0)/\(s.cuts[j]?.getD v0).kd=s.kd/\(s.cuts[j]?.getD v0).lim m:=fun j hj=>by
     obtain⟨k1,k2,k3⟩:=ho.at hj
     have Tn:s.cuts[j]?.getD v0∈s.cuts:=by rw[Ac hj];exact List.getElem_mem hj
     exact⟨⟨by rw[k3];exact Br,k2,k1,h.dig _ Tn⟩,k3,h.lim _ Tn⟩
    by_cases hz:c/2=0
    ·have hv:Jg s c=Qw (s.cuts[0]?.getD v0) (-1):=by unfold Jg;rw[if_neg h0,if_neg hd,if_neg Xa,if_pos hz]
     obtain⟨f1,f2,f3⟩:=zU 0 (by omega);obtain⟨k1,k2,k3,k4,_,k6⟩:=qtt f1 f3 (by omega) (-1) (.inr rfl);obtain⟨s1,s2⟩:=zR ho k1 (i:=0) (by omega) (fun e=>absurd e (by omega)) (fun _=>k6 rfl);rw[hv];exact fin _ k1 (by rw[k2,f2]) k3 (.inr ⟨by omega,by rw[hz];exact s1,s2⟩)
    ·by_cases hl:c/2=s.cuts.length
     ·have hv:Jg s c=Qw (s.cuts[s.cuts.length-1]?.getD v0) 1:=by unfold Jg;rw[if_neg h0,if_neg hd,if_neg Xa,if_neg hz,if_pos hl]
      obtain⟨f1,f2,f3⟩:=zU (s.cuts.length-1) (by omega);obtain⟨k1,k2,k3,k4,k5,_⟩:=qtt f1 f3 (by omega) 1 (.inl rfl);obtain⟨s1,s2⟩:=zR ho k1 (i:=s.cuts.length) (Ab _) (fun _=>k5 rfl) (fun e=>absurd e (by omega));rw[hv];exact fin _ k1 (by rw[k2,f2]) k3 (.inr ⟨by omega,by rw[hl];exact s1,s2⟩)
     ·have hv:Jg s c=Wn (s.cuts[c/2-1]?.getD v0) (s.cuts[c/2]?.getD v0):=by unfold Jg;rw[if_neg h0,if_neg hd,if_neg Xa,if_neg hz,if_neg hl]
      obtain⟨f1,f2,f3⟩:=zU (c/2-1) (by omega);obtain⟨g1,g2,g3⟩:=zU (c/2) (by omega)
      have Aj:vlt (s.cuts[c/2-1]?.getD v0) (s.cuts[c/2]?.getD v0):=by
       have := List.pairwise_iff_getElem.1 ho.inc (c/2-1) (c/2) (by omega) (by omega) (by omega);rw[Ac (show c/2-1<s.cuts.length by omega),Ac (show c/2<s.cuts.length by omega)];exact this
      obtain⟨k1,k2,k3,k4,k5,k6⟩:=zv4 f1 g1 (by rw[g2,f2]) f3 g3 hm Aj;obtain⟨s1,s2⟩:=zR ho k1 (i:=c/2) (by omega) (fun _=>k5) (fun _=>k6);rw[hv];exact fin _ k1 (by rw[k2,f2]) k3 (.inr ⟨by omega,s1,s2⟩)
def prM (m n:List Nat):List Gx:=[(Ca 6 (m.take 20)).1,(Ca 6 (n.take 20)).1]
theorem qqy (l:List Nat) (hl:l.length<=30):Tf (Ca 6 l).1=true:=by
 have h1:=U0 6 l;have h2:=yD 6 l;unfold Tf;simp only[Bool.and_eq_true,decide_eq_true_eq];exact⟨by omega,by omega⟩
theorem take20 (l:List Nat):(l.take 20).length<=20:=by rw[List.length_take];omega
theorem r9 {m n:List Nat}:∀ e∈prM m n,Md e/\Tf e=true:=by
 intro e he
 simp only[prM,List.mem_cons,List.not_mem_nil,or_false]at he
 rcases he with rfl | rfl
 ·exact⟨cM 6 _,qqy _ (by have := take20 m;omega)⟩
 ·exact⟨cM 6 _,qqy _ (by have := take20 n;omega)⟩
theorem oK (m n:List Nat):∃ l,Oc (prM m n)=(l,0)/\LM l/\Uw l/\∀ e∈prM m n,∀ t∈e.tests,Has l (Ec t):=zj6 (fun e he=>(r9 e he).1) (fun e he=>(r9 e he).2)
theorem dD {l:List Sc} (h:LM l) (hf:Uw l):K8 l:=fun s hs=>⟨fun c hc=>(quy (h.each s hs) c hc).2,Nat.le_trans (oB (sU (h.each s hs) (hf s hs))) (by decide)⟩
theorem U8s.take20 {K:Nat} {w:World} {a:Option Addr} {cap:Nat} {l:List Nat} (h:U8s K w (.slice a l.length cap) l) (k:Nat) (hk:min l.length 20=k):U8s K w (.slice a k cap) (l.take 20):=by
 have Cc:(l.take 20).length=k:=by rw[List.length_take];omega
 obtain⟨a',cap',he,h1,h2,h3,h4⟩:=h;simp only[Value.slice.injEq,true_and]at he;obtain⟨rfl,rfl⟩:=he;unfold U8s;rw[Cc];refine⟨a,cap,rfl,by omega,h2,h3,fun i hi=>?_⟩;obtain⟨b,o,e,hb,hc⟩:=h4 i (by omega);refine⟨b,o,e,hb,fun j hj=>?_⟩;rw[hc j hj]
 show some (Value.int .u8 ((l[i]?.getD 0:Nat):Int))=some (Value.int .u8 (((l.take 20)[i]?.getD 0:Nat):Int))
 rw[List.getElem?_take,if_pos (by omega)]
def gG (m n:List Nat):Bool:=decide (Zh ((pcs (Oc (prM m n)).1).map (·.length)) 1<=300)
theorem zff (K:Nat) (m:List Nat) (mv:Value) (n:List Nat) (nv:Value) (w:World) (hm:U8s K w mv m) (Ng:∀ y∈m,y<256) (hn:U8s K w nv n) (Lf:∀ y∈n,y<256) (hK:K<=w.heap.size) :
  Calls Tryz.prog 4 #[mv,nv] w fun e w'=>e=.returned (.bool (gG m n))/\Below w.heap.size w w':=by
 obtain⟨ma,mc,rfl,qch,cL⟩:=id (Au.form hm);obtain⟨na,nc,rfl,Ro,Vz⟩:=id (Au.form hn);unfold maxLen at cL Vz;obtain⟨mk,Fs⟩:∃ k,min m.length 20=k:=⟨_,rfl⟩;obtain⟨nk,Oz⟩:∃ k,min n.length 20=k:=⟨_,rfl⟩;have Nw:=hm.take20 mk Fs;have Dp:=hn.take20 nk Oz;obtain⟨ls,Ql,Rr,Uo,_⟩:=oK m n
 have U2:∀ a∈prM m n,a.good=true:=fun a ha=>qpd (r9 a ha).1
 unfold gG;rw[Ql];obtain⟨z,hz⟩:=Ae (Zh ((pcs ls).map (·.length)) 1);have HZ:=Aa hz;dsimp only;rw[hz];unfold prM at Ql U2
 have qR:∀ y∈m.take 20,y<256:=fun y hy=>Ng y (List.mem_of_mem_take hy)
 have pI:∀ y∈n.take 20,y<256:=fun y hy=>Lf y (List.mem_of_mem_take hy)
 have T9:∀ W,Below w.heap.size w W->Calls Tryz.prog 11 #[.slice ma mk mc] W fun e w'=>∃ X:Xv,e=.returned X.agg/\ExN W.heap.size w' (Ca 6 (m.take 20)).1 X/\Below W.heap.size W w':=fun W hb=>j5 K _ _ W (Nw.below hb hK (Ab _)) qR (by have := hb.size;omega) (by have := take20 m;omega)
 have dQ:∀ W,Below w.heap.size w W->Calls Tryz.prog 11 #[.slice na nk nc] W fun e w'=>∃ X:Xv,e=.returned X.agg/\ExN W.heap.size w' (Ca 6 (n.take 20)).1 X/\Below W.heap.size W w':=fun W hb=>j5 K _ _ W (Dp.below hb hK (Ab _)) pI (by have := hb.size;omega) (by have := take20 n;omega)
 obtain⟨ea,Q4⟩:∃ e,(Ca 6 (m.take 20)).1=e:=⟨_,rfl⟩;obtain⟨eb,vN⟩:∃ e,(Ca 6 (n.take 20)).1=e:=⟨_,rfl⟩;simp only[Q4,vN]at T9 dQ Ql U2;obtain⟨ml,rJ⟩:∃ k,m.length=k:=⟨_,rfl⟩;obtain⟨nle,tL⟩:∃ k,n.length=k:=⟨_,rfl⟩;rw[rJ]at qch Fs ⊢;rw[tL]at Ro Oz ⊢
 have zdh:mk<=mc:=by omega
 have zdz:nk<=nc:=by omega
 have sK:(if(20:Int)<(ml:Int)then(20:Int)else(ml:Int))=(mk:Int):=by split<;>omega
 have Tm:(if(20:Int)<(nle:Int)then(20:Int)else(nle:Int))=(nk:Int):=by split<;>omega
 have jR:=Aa sK;have qkj:=Aa Tm;have qhp:Hid (min (ml:Int) 20=(mk:Int)):=Aa (by omega);have qdt:Hid (min (nle:Int) 20=(nk:Int)):=Aa (by omega);have vR:=Aa T9;have qE:=Aa dQ;have zC:=Aa Ql;have kU:=Aa U2;have Hy:=Aa Rr;have Qp:=Aa Uo;clear hm hn Nw Dp Ng Lf qR pI rJ tL T9 dQ Q4 vN Ql U2 Rr Uo Fs Oz sK Tm hz;obtain⟨B,hB⟩:=Ae w.heap.size;rw[hB]at hK vR qE ⊢;have HB:=Aa hB;clear hB
 have bC:∀ (X Y:Xv) (w4:World),Below B w w4->ExG w4.heap.size w4 ea X->ExG w4.heap.size w4 eb Y->∀ W6,Below w4.heap.size w4 W6->Blk W6 w4.heap.size (Cq X Y) 43->Calls Tryz.prog 10 #[.slice (some ⟨w4.heap.size,0,none⟩) 2 2] W6 fun e w'=>∃ a c,e=.returned (.tuple #[.slice a ls.length c,.int .i64 0])/\(Calls Tryz.prog 12 #[.slice a ls.length c] w' fun e w''=>e=.returned (.int .i64 z)/\Below B w w'')/\Below B w w':=by
  intro X Y w4 Al hX hY W6 Bk q6
  have Fi:=Al.size;rw[HB.out]at Fi;have Nt:=Bk.size;have zjs:=hX.below Bk (Ab _) Nt;have zrk:=hY.below Bk (Ab _) Nt
  have Cd:=qo8 W6.heap.size (.slice (some ⟨w4.heap.size,0,none⟩) 2 2) [ea,eb] (g2x X Y) W6 (qbr q6 q6.lt) (fun i a ha=>by
   rcases i with _ | _ | i
   ·cases ha;exact zjs
   ·cases ha;exact zrk
   ·cases ha) kU.out (Ab _)
  rw[zC.out]at Cd;refine Cd.mono ?_;rintro e w7 ⟨lv,rfl,Hg,Ct⟩;obtain⟨la,lc,rfl,_,_⟩:=id Hg.form;have b7:Below B w w7:=Al.trans ((Bk.mono Fi).trans (Ct.mono (by omega)));refine⟨la,lc,rfl,?_,b7⟩;refine(qw1 w7.heap.size _ ls w7 Hg (dD Hy.out Qp.out) (by have := LM.len Hy.out;omega) (Ab _)).mono ?_;rintro e w8 ⟨rfl,Ey⟩;exact⟨by rw[HZ.out],b7.trans (Ey.mono (by have := b7.size;rw[HB.out]at this;exact this))⟩
 have zrn:=Aa bC;clear bC;go_enter Tryz.func4,Tryz.ntmps4
 go_upto_region 1 with fail
 refine Fz (fun _=>True) [] (by kernel_rfl) ?_;refine Am (i:=0) (v:=.slice ma ml mc) rfl trivial ?_;refine Am (i:=1) (v:=.slice ma ml mc) rfl trivial ?_;refine Am (i:=2) (v:=.int .i64 ml) rfl trivial ?_;refine Ar (i:=3) (v:=.int .i64 mk) rfl (.inl ⟨by kernel_rfl,fun W' hS=>by have Fs:=jR.out;go_simp<;>exact qhp.out⟩) trivial ?_;refine Am (i:=4) (v:=.slice ma mk mc) rfl trivial ?_;refine Am (i:=6) (v:=.slice na nle nc) rfl trivial ?_;refine Am (i:=7) (v:=.slice na nle nc) rfl trivial ?_;refine Am (i:=8) (v:=.int .i64 nle) rfl trivial ?_;refine Ar (i:=9) (v:=.int .i64 nk) rfl (.inl ⟨by kernel_rfl,fun W' hS=>by have Oz:=qkj.out;go_simp<;>exact qdt.out⟩) trivial ?_;refine Am (i:=10) (v:=.slice na nk nc) rfl trivial ?_;have Ov:Below B w w.drew:=Gn (Below.refl _ _) 1;have Pi:w.drew.heap.size=B:=HB.out;obtain⟨W0,J0⟩:∃ W,w.drew=W:=⟨_,rfl⟩;rw[J0]at Ov Pi ⊢;have Zg:=Aa Ov;have Ys:=Aa Pi;clear Ov Pi J0;refine Ap (i:=5) rfl ?_;go_simp
 refine(vR.out W0 Zg.out).mono ?_;rintro en w3 ⟨X1,rfl,N1,Ak⟩;have b3:Below B w w3:=Zg.out.trans (Ak.mono (by rw[Ys.out];exact Ab _))
 have Ep:B<=w3.heap.size:=by have := b3.size;rw[HB.out]at this;exact this
 have bN:=N1.now;have Rg:=Aa bN;have Do:=Aa b3;clear N1 Ak bN b3;refine Ap (i:=11) rfl ?_;go_simp
 refine(qE.out w3 Do.out).mono ?_;rintro en w4 ⟨X2,rfl,U3,Al⟩;have b4:Below B w w4:=Do.out.trans (Al.mono Ep);have lQ:=Rg.out.below Al (Ab _) Al.size;have nI:=U3.now;have hr:=zrn.out X1 X2 w4 b4 lQ nI (w4.alloc (.cells (Cq X1 X2) 43)) (Af _ _) (Blk.new w4 _ _);have HR:=Aa hr;clear U3 Al b4 lQ nI hr Rg Do;refine Ap (i:=12) rfl ?_;go_simp
 refine Ap (i:=13) rfl ?_;go_simp
 refine HR.out.mono ?_;rintro en w7 ⟨la,lc,rfl,mC,Ct⟩;have eO:=Aa mC;have E7:=Aa Ct;clear mC Ct HR;refine Am (i:=14) (v:=.tuple #[.slice la ls.length lc,.int .i64 0]) rfl trivial ?_;refine Am (i:=15) (v:=.slice la ls.length lc) rfl trivial ?_;refine Am (i:=16) (v:=.int .i64 0) rfl trivial ?_;refine Am (i:=17) (v:=.slice la ls.length lc) rfl trivial ?_;refine Am (i:=18) (v:=.int .i64 0) rfl trivial ?_;refine Eo (by kernel_rfl) ?_ _;go_simp
 go_wp2_with fail
 refine eO.out.mono ?_;clear eO;rintro en w8 ⟨rfl,Ey⟩
 have Bt:((z:Int)<=300) ↔ z<=300:=by omega
 go_wp2_with fail
 go_ret
 exact⟨rfl,Ey⟩
end Go.Proofs.YtlldjmagbjjeoaaGreatDoor
